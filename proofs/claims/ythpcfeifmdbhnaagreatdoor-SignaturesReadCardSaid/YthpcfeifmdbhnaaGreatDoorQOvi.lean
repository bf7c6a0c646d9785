import Derived.Test.YthpcfeifmdbhnaaGreatDoorQKnl
import Derived.Test.YthpcfeifmdbhnaaGreatDoorQCrd
import Derived.Test.YthpcfeifmdbhnaaGreatDoorQBat
import Derived.Test.YthpcfeifmdbhnaaGreatDoorQLkm
open Array renaming getElem?_eq_some_iff→Au
open Go renaming Calls→Al,Value→Ak,World→Aj,bodyPost_ret→Ai,cell_of_row→By,heap_alloc_new→Bz,wpAnyH_done→An,wp_region_held_drew→Ao
open Go.IntKind renaming i64→Ab,u8→Ac
open Go.Lib renaming hid→Ah
open Go.RowKit.Below renaming refl→Ag
open Go.Value renaming int→Aa,slice→Ad
open List renaming flatMap_append→Bi,flatMap_cons→Bf,getElem?_eq_getElem→Aw,getElem_cons_succ→Cd,getElem_cons_zero→Cc,getElem_mem→Ay,getElem_toArray→Ce,length_map→Bo,mem_append→Bl,mem_cons→Bk,mem_iff_getElem→Be,nodup_append→Bp,setIfInBounds_toArray→Ch,set_cons_succ→Cg,set_cons_zero→Cf,take_of_length_le→Bg,take_succ_eq_append_getElem→Bc
open Nat renaming le_refl→Am,le_trans→Br,lt_of_lt_of_le→Bq,zero_add→Bt
open Option renaming none→Ae,some→Af
set_option maxHeartbeats 16000000
set_option maxRecDepth 100000
namespace Go.Proofs.YthpcfeifmdbhnaaGreatDoor
open Go.RowKit
def Aq6:Array Ak:=#[Aa Ab 0,Aa Ab 0,Ad Ae 0 0,Aa Ac 0,Aa Ab 0,Aa Ab 0,Ad Ae 0 0,Ad Ae 0 0,Ad Ae 0 0]
def Af7 (a b:Int) (pv:Ak) (root:Mv) (sv:Ak) (er:Int) (ss:List Sm) (up:List Bool) (w:Aj) (e:Ending) (w':Aj):Prop:=
 Below w.heap.size w w'∧((er≠0∧e= .returned (.tuple #[.agg Aq6,Aa Ab er]))∨
  (er=0∧∃A2 r U,e= .returned (.tuple #[.agg (Sx a b pv root sv (Ad U up.length up.length) (Ad A2 r.length r.length)),Aa Ab 0])∧wF ss r∧Gr w' w.heap.size A2 r∧Rd w' U 1 up.length (De up)))
theorem Gr.same {w w':Aj} {O:Nat} {A:Option Addr} {l:List Sm} (h:Gr w O A l) (hb:∀g,O≤g→g<w.heap.size→w'.heap[g]? =w.heap[g]?):Gr w' O A l:=by
 obtain⟨z,h1,h2,h3⟩:=h;exact⟨z,h1,h2.same λg hg=>hb g (h2.lt g hg).1 (h2.lt g hg).2.1,λx hx=>(h3 x hx).same hb⟩
theorem Gr.below {w w':Aj} {O:Nat} {A:Option Addr} {l:List Sm} (h:Gr w O A l) (hb:Below w.heap.size w w'):Gr w' O A l:=h.same λg _ hg=>hb.block g hg
theorem Gr.base {w:Aj} {O O':Nat} {A:Option Addr} {l:List Sm} (h:Gr w O A l) (hO:O'≤O):Gr w O' A l:=by
 obtain⟨z,h1,h2,h3⟩:=h;exact⟨z,h1,h2.base hO,λx hx=>(h3 x hx).base hO⟩
theorem yV (a b:Int) (pA:Option Addr) (cr:List Cr) (pn pc:Nat) (root:Mv) (A:Option Addr) (l:List Stk) (n cc:Nat) (w:Aj) (hp:Gx a b cr) (hpn:pn=cr.length) (hpr:Rd w pA 3 pn (crs cr)) (hpl:pn≤1000000) (ht:root.t≤255)
  (hn:n=l.length) (h:Dh w A l) (hl:n≤100000) (hls:∀x∈l,x.ls.length≤100000) (hqs:∀x∈l,x.c.q≤255) (hQ:Qf w) (hT:Tn w):
  Al Tryz.prog 35 #[.agg #[Aa Ab a,Aa Ab b,Ad pA pn pc,Aa Ac root.t,Aa Ab root.x,Aa Ab root.y,Ad A n cc]] w (Af7 a b (Ad pA pn pc) root (Ad A n cc) (Jv a b cr root l) (Yd a b cr root l).seams (upF a b cr root).1 w):=by
 have HOF:=Ah (λ(w':Aj) (hb:Below w.heap.size w w')=>jC a b pA cr pn pc root A l n cc w' hp hpn (hpr.below hb) hpl ht hn (h.below hb) hl hls hqs (hQ.below hb) (hT.below hb));have HUP:=Ah (λ(w':Aj) (hb:Below w.heap.size w w')=>Af4 a b pA cr pn pc root w' hp hpn (hpr.below hb) hpl ht (hQ.below hb) (hT.below hb))
 have hup:Jv a b cr root l=0→(upF a b cr root).2=0:=λh0=>by
  unfold Jv at h0;unfold upF
  split at h0
  ·contradiction
  ·rename_i g;rw[if_neg g]
 obtain⟨E,hE⟩:=ey (Jv a b cr root l);rw[hE]at HOF hup⊢;obtain⟨ss,hss⟩:=ey ((Yd a b cr root l).seams);rw[hss]at HOF⊢;obtain⟨⟨up,ue⟩,hu⟩:=ey (upF a b cr root);rw[hu]at HUP hup⊢;obtain⟨rt,rx,ry⟩:=root;dsimp only at HOF HUP hup ht⊢;obtain⟨nu,hnu⟩:=ey up.length;rw[hnu]at HUP;have HNU:=Ah hnu;have H:=((Bx.start w).new #[Aa Ab a,Aa Ab b,Ad pA pn pc,Aa Ac rt,Aa Ab rx,Aa Ab ry,Ad A n cc] 33 rfl).new #[Aa Ab 0,Aa Ab 0,Ad Ae 0 0,Aa Ac 0,Aa Ab 0,Aa Ab 0,Ad Ae 0 0,Ad Ae 0 0,Ad Ae 0 0] 117 (N:=w.heap.size+1) Cn;clear hp hpn hpr hpl ht hn h hl hls hqs hQ hT hE hss hu hnu;go_enter Tryz.func35,Tryz.ntmps35;go_upto_region 1 with fail;obtain⟨N,hN⟩:=ez w.heap.size;rw[←hN]at H⊢;have HNN:=Ah hN;clear hN;obtain⟨P,hP⟩:=ey (N+1);rw[hP]at H⊢;obtain⟨W0,hW0⟩:=ez ((w.alloc (.cells #[Aa Ab a,Aa Ab b,Ad pA pn pc,Aa Ac rt,Aa Ab rx,Aa Ab ry,Ad A n cc] 33)).alloc (.cells #[Aa Ab 0,Aa Ab 0,Ad Ae 0 0,Aa Ac 0,Aa Ab 0,Aa Ab 0,Ad Ae 0 0,Ad Ae 0 0,Ad Ae 0 0] 117));rw[←hW0]at H⊢;clear hW0;clear hP;have HPW:Hid (P<W0.heap.size):=Ah (H.lt 1 rfl);have HWW:Hid (w.heap.size≤W0.heap.size):=Ah H.below.size;have hc:=λj=>By W0 N j _ _ (0,0) (H.blk 0 _ _ _ rfl);have c0:W0.cell? ⟨N,0,Ae⟩=Af (Aa Ab a):=(hc 0).trans rfl;have c1:W0.cell? ⟨N,1,Ae⟩=Af (Aa Ab b):=(hc 1).trans rfl;have c2:W0.cell? ⟨N,2,Ae⟩=Af (Ad pA pn pc):=(hc 2).trans rfl;have c3:W0.cell? ⟨N,3,Ae⟩=Af (Aa Ac rt):=(hc 3).trans rfl;have c4:W0.cell? ⟨N,4,Ae⟩=Af (Aa Ab rx):=(hc 4).trans rfl;have c5:W0.cell? ⟨N,5,Ae⟩=Af (Aa Ab ry):=(hc 5).trans rfl;have c6:W0.cell? ⟨N,6,Ae⟩=Af (Ad A n cc):=(hc 6).trans rfl;clear hc;go_wp2_with fail;refine(HOF.out _ H.below).mono ?_;rintro ee w1 ⟨hb,hret⟩;have H1:=H.call hb;clear c0 c1 c2 c3 c4 c5 c6 H HOF
 rcases hret with⟨h0,rfl⟩|⟨rfl,A2,r,rfl,hsm,hsa⟩
 ·have q1:(E != 0)=true:=by simpa using h0
  have hP9:=H1.blk 1 _ _ _ rfl;obtain⟨c0,c1,c2,c3,c4,c5,c6,c7,c8⟩:=Wc hP9;have z0:(w1).frozen? ⟨P,0,Ae⟩=false:=by simp[World.frozen?,hP9]
  have z1:(w1).frozen? ⟨P,1,Ae⟩=false:=by simp[World.frozen?,hP9]
  have z2:(w1).frozen? ⟨P,2,Ae⟩=false:=by simp[World.frozen?,hP9]
  have z3:(w1).frozen? ⟨P,3,Ae⟩=false:=by simp[World.frozen?,hP9]
  have z4:(w1).frozen? ⟨P,4,Ae⟩=false:=by simp[World.frozen?,hP9]
  have z5:(w1).frozen? ⟨P,5,Ae⟩=false:=by simp[World.frozen?,hP9]
  have z6:(w1).frozen? ⟨P,6,Ae⟩=false:=by simp[World.frozen?,hP9]
  have z7:(w1).frozen? ⟨P,7,Ae⟩=false:=by simp[World.frozen?,hP9]
  have z8:(w1).frozen? ⟨P,8,Ae⟩=false:=by simp[World.frozen?,hP9]
  clear hP9;go_wp2_with fail;have H2:=H1.setAll 1 rfl [Aa Ab 0,Aa Ab 0,Ad Ae 0 0,Aa Ac 0,Aa Ab 0,Aa Ab 0,Ad Ae 0 0,Ad Ae 0 0,Ad Ae 0 0] rfl;exact Ai (Cs rfl rfl (H2.range 1 rfl) Tryz.underlying117 rfl Cm) rfl ⟨H2.below,.inl ⟨h0,rfl⟩⟩
 ·have hue:=hup rfl;subst hue;have hc:=λj=>By w1 N j _ _ (0,0) (H1.blk 0 _ _ _ rfl);have c0:w1.cell? ⟨N,0,Ae⟩=Af (Aa Ab a):=(hc 0).trans rfl;have c1:w1.cell? ⟨N,1,Ae⟩=Af (Aa Ab b):=(hc 1).trans rfl;have c2:w1.cell? ⟨N,2,Ae⟩=Af (Ad pA pn pc):=(hc 2).trans rfl;have c3:w1.cell? ⟨N,3,Ae⟩=Af (Aa Ac rt):=(hc 3).trans rfl;have c4:w1.cell? ⟨N,4,Ae⟩=Af (Aa Ab rx):=(hc 4).trans rfl;have c5:w1.cell? ⟨N,5,Ae⟩=Af (Aa Ab ry):=(hc 5).trans rfl;have HSM:=Ah hsm;have HSA:=Ah hsa;obtain⟨m,hm⟩:=ey r.length;rw[hm];have HMM:=Ah hm;clear hc hup hsm hsa hb hm;go_wp2_with fail;refine(HUP.out _ H1.below).mono ?_;rintro ee w2 ⟨hb,⟨h0,-⟩|⟨-,G,rfl,hge,hG⟩⟩
  ·exact absurd rfl h0
  have H2:=H1.call hb;have HSA2:=Ah (HSA.out.below hb);have HGB:=Ah hG;have hGl:w1.heap.size≤G:=hge;have hPl:=H1.lt 1 rfl;have hGb:=(Au.1 hG).1;have HGP:Hid (G≠P):=Ah Ci;clear c0 c1 c2 c3 c4 c5 hb hge hG hGl hPl hGb H1 HSA HUP;have hc:=λj=>By w2 N j _ _ (0,0) (H2.blk 0 _ _ _ rfl);have d0:w2.cell? ⟨N,0,Ae⟩=Af (Aa Ab a):=(hc 0).trans rfl;have d1:w2.cell? ⟨N,1,Ae⟩=Af (Aa Ab b):=(hc 1).trans rfl;have d2:w2.cell? ⟨N,2,Ae⟩=Af (Ad pA pn pc):=(hc 2).trans rfl;have d3:w2.cell? ⟨N,3,Ae⟩=Af (Aa Ac rt):=(hc 3).trans rfl;have d4:w2.cell? ⟨N,4,Ae⟩=Af (Aa Ab rx):=(hc 4).trans rfl;have d5:w2.cell? ⟨N,5,Ae⟩=Af (Aa Ab ry):=(hc 5).trans rfl;have d6:w2.cell? ⟨N,6,Ae⟩=Af (Ad A n cc):=(hc 6).trans rfl;have hP9:=H2.blk 1 _ _ _ rfl;obtain⟨c0,c1,c2,c3,c4,c5,c6,c7,c8⟩:=Wc hP9;have z0:(w2).frozen? ⟨P,0,Ae⟩=false:=by simp[World.frozen?,hP9]
  have z1:(w2).frozen? ⟨P,1,Ae⟩=false:=by simp[World.frozen?,hP9]
  have z2:(w2).frozen? ⟨P,2,Ae⟩=false:=by simp[World.frozen?,hP9]
  have z3:(w2).frozen? ⟨P,3,Ae⟩=false:=by simp[World.frozen?,hP9]
  have z4:(w2).frozen? ⟨P,4,Ae⟩=false:=by simp[World.frozen?,hP9]
  have z5:(w2).frozen? ⟨P,5,Ae⟩=false:=by simp[World.frozen?,hP9]
  have z6:(w2).frozen? ⟨P,6,Ae⟩=false:=by simp[World.frozen?,hP9]
  have z7:(w2).frozen? ⟨P,7,Ae⟩=false:=by simp[World.frozen?,hP9]
  have z8:(w2).frozen? ⟨P,8,Ae⟩=false:=by simp[World.frozen?,hP9]
  clear hc hP9;go_wp2_with fail;have H3:=H2.setAll 1 rfl [Aa Ab a,Aa Ab b,Ad pA pn pc,Aa Ac rt,Aa Ab rx,Aa Ab ry,Ad A n cc,Ad (Af ⟨G,0,Ae⟩) nu nu,Ad A2 m m] rfl;refine Ai (Cs rfl rfl (H3.range 1 rfl) Tryz.underlying117 rfl Cm) rfl ⟨H3.below,.inr ⟨rfl,A2,r,Af ⟨G,0,Ae⟩,?_,HSM.out,?_,?_⟩⟩
  ·rw[HMM.out,HNU.out];rfl
  ·have hso:∀g,W0.heap.size≤g→g<w2.heap.size→(w2.setCells P 0 [Aa Ab a,Aa Ab b,Ad pA pn pc,Aa Ac rt,Aa Ab rx,Aa Ab ry,Ad A n cc,Ad (Af ⟨G,0,Ae⟩) nu nu,Ad A2 m m]).heap[g]? =w2.heap[g]? :=λg h1 h2=>World.heap_setCells_other w2 P 0 _ h2 (by have:=HPW.out;omega);exact(HSA2.out.same hso).base HWW.out
  ·have hGr:=HGB.out;rw[HNU.out];refine Oc (n:=nu) (sz:=1) ((World.heap_setCells_other w2 P 0 [Aa Ab a,Aa Ab b,Ad pA pn pc,Aa Ac rt,Aa Ab rx,Aa Ab ry,Ad A n cc,Ad (Af ⟨G,0,Ae⟩) nu nu,Ad A2 m m] (Au.1 hGr).1 HGP.out).trans hGr) (by rw[←HNU.out];simp[De])
theorem kS {a b:Int} {x:Nat×Nat×Nat} {lo hi e:Nat} (hlo:min x.2.1 x.2.2=lo) (hhi:max x.2.1 x.2.2=hi) (he:e<3) (h:nbI a b (lo:Int) (e:Int)=((hi:Int),0)) (hb:∀j:Nat,j<e→nbI a b (lo:Int) (j:Int)≠((hi:Int),0)):Ia a b x=(lo,e):=by
 unfold Ia;rw[hlo,hhi];have:e=0∨e=1∨e=2:=Ci
 have hf:([0,1,2]:List Nat).find? (λ(e:Nat)=>decide (nbI a b (lo:Int) (e:Int)=(((hi:Nat):Int),(0:Int))))=Af e:=by
  rcases this with rfl|rfl|rfl
  ·rw[List.find?_cons_of_pos (by simpa using h)]
  ·rw[List.find?_cons_of_neg (by simpa using hb 0 Ci),List.find?_cons_of_pos (by simpa using h)]
  ·rw[List.find?_cons_of_neg (by simpa using hb 0 Ci),List.find?_cons_of_neg (by simpa using hb 1 Ci),List.find?_cons_of_pos (by simpa using h)]
 rw[hf]
theorem dB {a b:Int} {x:Nat×Nat×Nat} {lo hi:Nat} (hlo:min x.2.1 x.2.2=lo) (hhi:max x.2.1 x.2.2=hi) (hb:∀j:Nat,j<3→nbI a b (lo:Int) (j:Int)≠((hi:Int),0)):Ia a b x=(0,0):=by
 unfold Ia;rw[hlo,hhi]
 have hf:([0,1,2]:List Nat).find? (λ(e:Nat)=>decide (nbI a b (lo:Int) (e:Int)=(((hi:Nat):Int),(0:Int))))=Ae:=by
  rw[List.find?_cons_of_neg (by simpa using hb 0 Ci),List.find?_cons_of_neg (by simpa using hb 1 Ci),List.find?_cons_of_neg (by simpa using hb 2 Ci)];rfl
 rw[hf]
theorem kT (a b:Int) (x:Nat×Nat×Nat) (w:Aj) (hs:okS a b=true) (hQ:Qt w):
  Al Tryz.prog 71 #[.agg #[Aa Ab a,Aa Ab b],gJ x] w (Co (.agg #[Aa Ab ((Ia a b x).1:Int),Aa Ac ((Ia a b x).2:Int)]) w):=by
 have HNB:=Ah (λ(i e:Int) (he:0≤e) (w':Aj) (hb:Below w.heap.size w w')=>Fi a b i e w' hs he (hQ.below hb));obtain⟨R,hR⟩:=ey (Ia a b x);rw[hR];have HR:=Ah hR;have HAT:=Ah (λ(lo hi e:Nat)=>kS (a:=a) (b:=b) (x:=x) (lo:=lo) (hi:=hi) (e:=e));have HNO:=Ah (λ(lo hi:Nat)=>dB (a:=a) (b:=b) (x:=x) (lo:=lo) (hi:=hi));obtain⟨x0,x1,x2⟩:=x;unfold gJ;dsimp only at HAT HNO⊢;have H:=(((Bx.start w).new #[Aa Ab a,Aa Ab b] 25 rfl).new #[Aa Ac x0,Aa Ab x1,Aa Ab x2] 176 (N:=w.heap.size+1) Cn).new #[Aa Ab 0,Aa Ac 0] 126 (N:=w.heap.size+1+1) Cn;clear hs hQ hR;go_enter Tryz.func71,Tryz.ntmps71;go_upto_region 1 with fail;obtain⟨W,hW⟩:=ez (((w.alloc (.cells #[Aa Ab a,Aa Ab b] 25)).alloc (.cells #[Aa Ac x0,Aa Ab x1,Aa Ab x2] 176)).alloc (.cells #[Aa Ab 0,Aa Ac 0] 126));rw[←hW]at H⊢;clear hW;obtain⟨N,hN⟩:=ez w.heap.size;rw[←hN]at H⊢;have HNN:=Ah hN;clear hN;obtain⟨P,hP⟩:=ey (N+1);obtain⟨U,hU⟩:=ey (P+1);rw[hP,hU]at H⊢;clear hP hU;obtain⟨⟨c0,c1,c2⟩,-⟩:=Cv (H.blk 1 _ _ _ rfl);obtain⟨lo,hlo⟩:=ey (min x1 x2);obtain⟨hi,hhi⟩:=ey (max x1 x2);have HAT2:=Ah (λe=>HAT.out lo hi e hlo hhi);have HNO2:=Ah (HNO.out lo hi hlo hhi);have HMN:=Ah (⟨hlo,hhi⟩:_∧_);clear hlo hhi HAT HNO;go_cut [5,6] (λs5 s6 wx=>s5= Aa Ab (lo:Int)∧s6= Aa Ab (hi:Int)∧Hid (Bx w ([(N,#[Aa Ab a,Aa Ab b],25),(P,#[Aa Ac x0,Aa Ab x1,Aa Ab x2],176),(U,#[Aa Ab 0,Aa Ac 0],126)]) wx))
 case first=>
  obtain⟨hlo,hhi⟩:=HMN.out;have HH:=Ah H.drew;obtain⟨S,hSd⟩:∃S:Aj→Prop,S=λW'=>W'.cell? ⟨P,1,Ae⟩=Af (Aa Ab (x1:Int))∧W'.cell? ⟨P,2,Ae⟩=Af (Aa Ab (x2:Int)):=⟨_,rfl⟩;have HSO:Hid (∀W',S W'→W'.cell? ⟨P,1,Ae⟩=Af (Aa Ab (x1:Int))∧W'.cell? ⟨P,2,Ae⟩=Af (Aa Ab (x2:Int))):=Ah λW' h=>by subst hSd;exact h
  have hS0:S W.drew:=by subst hSd;exact⟨c1,c2⟩
  clear hSd c0 c1 c2 H;rcases Nat.lt_trichotomy x1 x2 with hrr|hrr|hrr
  ·obtain⟨rfl,rfl⟩:x1=lo∧x2=hi:=Ci;have r1:(x1:Int)<(x2:Int):=Ci;have r2:¬(x2:Int)<(x1:Int):=Ci;clear hlo hhi hrr;refine Ao (S:=S) Cm hS0 (λhS=>?_);refine Ck 0 ?_;refine Ck 1 ?_;refine Ck 2 ?_;refine Ck 3 ?_;refine Ck 4 ?_;refine Ck 5 ?_;refine Ck 6 ?_;refine Ck 7 ?_;refine Ck 8 ?_;refine Ck 9 ?_;refine Ck 10 ?_;refine Ck 11 ?_;refine An Cm ?_ _;go_wp2;go_meet;exact⟨by first|rfl|exact congrArg (Value.int .i64) Ci,by first|rfl|exact congrArg (Value.int .i64) Ci,HH⟩
  ·subst hrr;obtain⟨rfl,rfl⟩:x1=lo∧x1=hi:=Ci;clear hlo hhi;refine Ao (S:=S) Cm hS0 (λhS=>?_);refine Ck 0 ?_;refine Ck 1 ?_;refine Ck 2 ?_;refine Ck 3 ?_;refine Ck 4 ?_;refine Ck 5 ?_;refine Ck 6 ?_;refine Ck 7 ?_;refine Ck 8 ?_;refine Ck 9 ?_;refine Ck 10 ?_;refine Ck 11 ?_;refine An Cm ?_ _;go_wp2;go_meet;exact⟨by first|rfl|exact congrArg (Value.int .i64) Ci,by first|rfl|exact congrArg (Value.int .i64) Ci,HH⟩
  ·obtain⟨rfl,rfl⟩:x2=lo∧x1=hi:=Ci;have r1:(x2:Int)<(x1:Int):=Ci;have r2:¬(x1:Int)<(x2:Int):=Ci;clear hlo hhi hrr;refine Ao (S:=S) Cm hS0 (λhS=>?_);refine Ck 0 ?_;refine Ck 1 ?_;refine Ck 2 ?_;refine Ck 3 ?_;refine Ck 4 ?_;refine Ck 5 ?_;refine Ck 6 ?_;refine Ck 7 ?_;refine Ck 8 ?_;refine Ck 9 ?_;refine Ck 10 ?_;refine Ck 11 ?_;refine An Cm ?_ _;go_wp2;go_meet;exact⟨by first|rfl|exact congrArg (Value.int .i64) Ci,by first|rfl|exact congrArg (Value.int .i64) Ci,HH⟩
 case rest=>
 obtain⟨rfl,rfl,HH⟩:=hcut;clear H c0 c1 c2;go_wp2
 go_loopw [20] (λs20 wr=>∃e:Nat,s20= Aa Ac e∧e≤3∧Hid (Bx w ([(N,#[Aa Ab a,Aa Ab b],25),(P,#[Aa Ac x0,Aa Ab x1,Aa Ab x2],176),(U,#[Aa Ab 0,Aa Ac 0],126)]) wr)∧Hid (∀j,j<e→nbI a b (lo:Int) (j:Int)≠((hi:Int),0))) (λs20 _=>3-(intOf s20).toNat)
 case atStart=>exact⟨0,rfl,Ci,HH,Ah λj hj=>absurd hj Ci⟩
 case round=>
  obtain⟨e,rfl,he,HH,HE⟩:=hrel;by_cases h3:e<3
  ·have q1:(e:Int)<3:=Ci;have q2:(e:Int)≤255:=Ci;obtain⟨⟨a0,a1⟩,-⟩:=Cy (HH.out.blk 0 _ _ _ rfl);have hnb:=HNB.out (lo:Int) (e:Int) Ci wr HH.out.below;have hat:=HAT2.out e h3;obtain⟨⟨nn,er⟩,hz⟩:=ey (nbI a b (lo:Int) (e:Int));rw[hz]at hnb hat;have HZ:=Ah hz;have HNB2:=Ah hnb;have HAT3:=Ah hat;clear hnb hat hz;go_wp2_with fail;refine HNB2.out.mono ?_;rintro en w2 ⟨rfl,hb⟩;have H2:=HH.out.call hb;clear HNB2 a0 a1 hb HH;unfold Zs;dsimp only;have H2':=((H2.set 2 0 rfl (Aa Ab (lo:Int))).set 2 1 rfl (Aa Ac (e:Int)));by_cases h0:er=0
   ·subst h0;by_cases hn:nn=(hi:Int)
    ·subst hn;have hF:=HAT3.out rfl (HE.out);have HF:=Ah (show R=(lo,e)by rw[←HR.out,hF]);obtain⟨⟨u0,u1⟩,u2,u3⟩:=Cy (H2.blk 2 _ _ _ rfl);clear HAT3 hF HZ;go_wp2_with fail;rw[HF.out];exact Ai (Ht rfl rfl (H2'.range 2 rfl) Tryz.underlying126 rfl Cm) rfl ⟨rfl,H2'.below⟩
    ·have q5:(nn==(hi:Int))=false:=by simpa using hn
     have HK:Hid (∀j,j<e+1→nbI a b (lo:Int) (j:Int)≠((hi:Int),0)):=Ah λj hj=>by
      by_cases e1:j=e
      ·subst e1;rw[HZ.out];intro hc;exact hn (congrArg Prod.fst hc)
      ·exact HE.out j Ci
     have HH2:=Ah H2;clear HAT3 HZ H2 H2' hn;go_wp2;exact⟨⟨e+1,by go_num,Ci,HH2,HK⟩,by simp[intOf];omega⟩
   ·have q5:(er==0)=false:=by simpa using h0
    have HK:Hid (∀j,j<e+1→nbI a b (lo:Int) (j:Int)≠((hi:Int),0)):=Ah λj hj=>by
     by_cases e1:j=e
     ·subst e1;rw[HZ.out];intro hc;exact h0 (congrArg Prod.snd hc)
     ·exact HE.out j Ci
    have HH2:=Ah H2;clear HAT3 HZ H2 H2' h0;go_wp2;exact⟨⟨e+1,by go_num,Ci,HH2,HK⟩,by simp[intOf];omega⟩
  ·obtain rfl:e=3:=Ci;have HF:=Ah (show R=(0,0)by rw[←HR.out,HNO2.out HE.out]);have H2:=HH.out;have H2':=((H2.set 2 0 rfl (Aa Ab 0)).set 2 1 rfl (Aa Ac 0));obtain⟨⟨u0,u1⟩,u2,u3⟩:=Cy (H2.blk 2 _ _ _ rfl);clear h3;go_wp2_with fail;rw[HF.out];exact Ai (Ht rfl rfl (H2'.range 2 rfl) Tryz.underlying126 rfl Cm) rfl ⟨rfl,H2'.below⟩
theorem wZ (c e:Nat) (k kk:Int) (Wb Kb M:Nat) (mp:List ((Int×Int)×Ak)) (v:Bool) (w:Aj) (hW:w.heap[Wb]? =Af (Obj.cells #[.bool v] 4 (0,0))) (hK:w.cell? ⟨Kb,0,Ae⟩=Af (.map (Af M))) (hM:Fq unK w M mp) (hg:(Ji ((c:Int),(e:Int)) mp).getD (Aa Ac 0)= Aa Ac kk):
  Al Tryz.prog 38 #[.agg #[Aa Ab (c:Int),Aa Ac (e:Int)],Aa Ac k,.pointer (Af ⟨Wb,0,Ae⟩),.pointer (Af ⟨Kb,0,Ae⟩)] w
   λen w'=>en= .returned (.tuple #[])∧Below Wb w w'∧w'.heap[Wb]? =Af (Obj.cells #[.bool (v||(decide (kk≠3)&&decide (kk≠k)))] 4 (0,0))∧w.heap.size≤w'.heap.size∧∀g,g<w.heap.size→g≠Wb→w'.heap[g]? =w.heap[g]? :=by
 have hWl:=(Au.1 hW).1;have H:=(Bx.start w).new #[Aa Ab (c:Int),Aa Ac (e:Int)] 126 rfl;have hW1:=kept H.below hW hWl;have hK1:=Cj H.below hK;have hM1:=hM.below H.below hM.lt;obtain⟨a0,a1⟩:=Wd hW1;obtain⟨R,hR⟩:=ey ((v||(decide (kk≠3)&&decide (kk≠k))));rw[hR];have HR:=Ah hR;have hlk:=λW' (h:Fq unK W' M mp)=>Qa Nr Tryz.underlying121 (et:=122) (z:= Aa Ac 0) (λw=>Cm) h ((c:Int),(e:Int)) false;rw[hg]at hlk;unfold unK at hlk;simp only[Bool.false_eq_true,if_false]at hlk;have hl1:=hlk _ hM1
 have HFIN:Hid (∀W,W=(w.alloc (.cells #[Aa Ab (c:Int),Aa Ac (e:Int)] 126)).setCell ⟨Wb,0,Ae⟩ (.bool R)→Below Wb w W∧W.heap[Wb]? =Af (Obj.cells #[.bool R] 4 (0,0))∧w.heap.size≤W.heap.size∧∀g,g<w.heap.size→g≠Wb→W.heap[g]? =w.heap[g]?):=Ah λW h=>by
  subst h;exact⟨(((Ag Wb w).alloc Ci _)).setCell (p:=⟨Wb,0,Ae⟩) (Am _) _,by rw[Ey _ hW1];rfl,Cn,λg hg hgW=>(Below.heap_setCell _ ⟨Wb,0,Ae⟩ _ g (by show g≠Wb;exact hgW)).trans (Below.heap_alloc w _ g hg)⟩
 obtain⟨⟨b0,b1⟩,-⟩:=Cy (H.blk 0 _ _ _ rfl);clear hW hK hM hg hR hlk hW1 hM1 hWl;go_enter Tryz.func38,Tryz.ntmps38;go_upto_region 1 with fail;obtain⟨N,hN⟩:=ez w.heap.size;rw[←hN]at H b0 b1⊢;clear hN;obtain⟨W0,hW0⟩:=ez (w.alloc (.cells #[Aa Ab (c:Int),Aa Ac (e:Int)] 126));rw[←hW0]at H hl1 HFIN a0 a1 hK1 b0 b1⊢;clear hW0;clear H
 cases v with
 |true=>
  have hR:R=true:=by rw[←HR.out];rfl
  subst hR;go_wp2_with fail
  go_end0
  exact⟨rfl,HFIN.out _ rfl⟩
 |false=>
  by_cases h3:kk=3
  ·subst h3;have hR:R=false:=by rw[←HR.out];rfl
   subst hR;go_wp2_with fail
   go_end0
   exact⟨rfl,HFIN.out _ rfl⟩
  ·have q1:(kk != 3)=true:=by simpa using h3
   by_cases h4:kk=k
   ·subst h4;have hR:R=false:=by rw[←HR.out];simp
    subst hR;go_wp2_with fail
    go_end0
    exact⟨rfl,HFIN.out _ rfl⟩
   ·have q2:(kk != k)=true:=by simpa using h4
    have hR:R=true:=by rw[←HR.out];simp[h3,h4]
    subst hR;go_wp2_with fail
    go_end0
    exact⟨rfl,HFIN.out _ rfl⟩
theorem Bb7 {w:Aj} {O:Nat} {A:Option Addr} {l:List Sm} (h:Gr w O A l) (i:Nat) (hi:i<l.length):
  ∃b o A1 A2 A3,A=Af ⟨b,o,Ae⟩∧(w.cell? ⟨b,o+i*9,Ae⟩=Af (Aa Ab l[i].a.x)∧w.cell? ⟨b,o+i*9+1,Ae⟩=Af (Aa Ab l[i].a.y)∧w.cell? ⟨b,o+i*9+2,Ae⟩=Af (Aa Ac l[i].a.q)∧w.cell? ⟨b,o+i*9+3,Ae⟩=Af (Aa Ab l[i].b.x)∧w.cell? ⟨b,o+i*9+4,Ae⟩=Af (Aa Ab l[i].b.y)∧w.cell? ⟨b,o+i*9+5,Ae⟩=Af (Aa Ac l[i].b.q)∧
   w.cell? ⟨b,o+i*9+6,Ae⟩=Af (Ad A1 l[i].ps.length l[i].ps.length)∧w.cell? ⟨b,o+i*9+7,Ae⟩=Af (Ad A2 l[i].ls.length l[i].ls.length)∧w.cell? ⟨b,o+i*9+8,Ae⟩=Af (Ad A3 l[i].es.length l[i].es.length))∧Jj w O l[i] A1 A2 A3:=by
 obtain⟨z,rfl,h2,h3⟩:=h;have hiz:i<z.length:=by simpa using hi
 have hr:=h2.rd;obtain⟨b,o,e,-,hc⟩:=hr.2 Ci;have hat:∀f,f<9→(z.flatMap smC)[i*9+f]? =(smC z[i])[f]? :=λf hf=>Dz smC 9 Lm _ i f hiz hf;have hrow:=h3 z[i] (Ay hiz);simp only[List.getElem_map];exact⟨b,o,z[i].2.1,z[i].2.2.1,z[i].2.2.2,e,⟨hc (i*9+0) _ ((hat 0 Ci).trans rfl),hc (i*9+1) _ ((hat 1 Ci).trans rfl),hc (i*9+2) _ ((hat 2 Ci).trans rfl),hc (i*9+3) _ ((hat 3 Ci).trans rfl),hc (i*9+4) _ ((hat 4 Ci).trans rfl),hc (i*9+5) _ ((hat 5 Ci).trans rfl),hc (i*9+6) _ ((hat 6 Ci).trans rfl),hc (i*9+7) _ ((hat 7 Ci).trans rfl),hc (i*9+8) _ ((hat 8 Ci).trans rfl)⟩,hrow⟩
theorem dC (a b:Int) (pv:Ak) (root:Mv) (A:Option Addr) (l:List Stk) (n cc:Nat) (uv:Ak) (O:Nat) (A2:Option Addr) (r:List Sm) (m:Nat) (w:Aj) (hn:n=l.length) (h:Dh w A l) (hl:n≤100000) (hls:∀x∈l,x.ls.length≤100000)
  (hm:m=r.length) (hml:m≤1000000) (hr:Gr w O A2 r) (hrl:∀s∈r,s.ps.length≤1000000∧s.ls.length≤1000000):
  Al Tryz.prog 36 #[.agg (Sx a b pv root (Ad A n cc) uv (Ad A2 m m))] w (Co (Aa Ab (if r.any (Fh l)then 12 else 0)) w):=by
 have HS:=Ah (λ(w':Aj) (hb:Below w.heap.size w w')=>hr.below hb);have HC:=Ah (λ(s:Sm) (hs:s∈r) (w':Aj) (hb:Below w.heap.size w w') (A1 A2 A3:Option Addr) (hrw:Jj w' O s A1 A2 A3)=>fH s A1 A2 A3 s.ps.length s.ps.length s.ls.length s.ls.length s.es.length s.es.length A l n cc w' hn (h.below hb) hl hls rfl hrw.1.2.rd (hrl s hs).1 rfl hrw.2.1.2.rd (hrl s hs).2);have HM:=Ah hm;obtain⟨R,hR⟩:∃z:Int,(if r.any (Fh l)then 12 else 0)=z:=⟨_,rfl⟩;rw[hR];have HR:=Ah hR;clear hR;obtain⟨rt,rx,ry⟩:=root;unfold Sx;dsimp only;have H:=(Bx.start w).new #[Aa Ab a,Aa Ab b,pv,Aa Ac rt,Aa Ab rx,Aa Ab ry,Ad A n cc,uv,Ad A2 m m] 117 rfl;clear hn h hls hm hr hrl;go_enter Tryz.func36,Tryz.ntmps36;go_upto_region 1 with fail;obtain⟨N,hN⟩:=ez w.heap.size;rw[←hN]at H⊢;have HNN:=Ah hN;clear hN;obtain⟨W,hW⟩:=ez (w.alloc (.cells #[Aa Ab a,Aa Ab b,pv,Aa Ac rt,Aa Ab rx,Aa Ab ry,Ad A n cc,uv,Ad A2 m m] 117));rw[←hW]at H⊢;clear hW;obtain⟨-,-,-,-,-,-,-,-,c8⟩:=Wc (H.blk 0 _ _ _ rfl);go_wp2_with fail;clear c8;have H:=Ah H
 go_loopw [8] (λs8 wr=>∃i:Nat,i≤m∧s8= Aa Ab i∧Hid (Bx w [(N,#[Aa Ab a,Aa Ab b,pv,Aa Ac rt,Aa Ab rx,Aa Ab ry,Ad A n cc,uv,Ad A2 m m],117)] wr)∧Hid (∀j (hj:j<r.length),j<i→Fh l r[j]=false)) (λs8 _=>m-(intOf s8).toNat)
 case atStart=>exact⟨0,Ci,rfl,H,Ah λj _ hj=>absurd hj Ci⟩
 case round=>
  obtain⟨i,hi,rfl,HH,HF⟩:=hrel;by_cases hlt:i<m
  ·have hil:i<r.length:=by have:=HM.out;omega
   have q0:(i:Int)<(m:Int):=Ci;obtain⟨sb,so,B1,B2,B3,hA2,⟨d0,d1,d2,d3,d4,d5,d6,d7,d8⟩,hrw⟩:=Bb7 (HS.out _ HH.out.below) i hil;have hm1:=Ay hil;obtain⟨s,hs⟩:=ey (r[i]);rw[hs]at d0 d1 d2 d3 d4 d5 d6 d7 d8 hrw hm1;have HCC:=Ah (λ(w':Aj) (hb:Below wr.heap.size wr w')=>HC.out s hm1 w' (HH.out.below.trans (hb.mono HH.out.below.size)) B1 B2 B3 (hrw.same λg _ hg=>hb.block g hg))
   have HNX:=Ah (λ(hc:Fh l s=false) (j:Nat) (hj:j<r.length) (hji:j<i+1)=>show Fh l r[j]=false by
    by_cases hjk:j=i
    ·subst hjk;rw[hs];exact hc
    ·exact HF.out j hj Ci)
   have HYS:=Ah (λ(hc:Fh l s=true)=>show R=12 by
    rw[←HR.out,if_pos (List.any_eq_true.2 ⟨s,hm1,hc⟩)])
   obtain⟨x,hx⟩:=ey (Fh l s);rw[hx]at HCC HNX HYS;obtain⟨⟨s0,s1,s2⟩,⟨t0,t1,t2⟩,ps,ls,es⟩:=s;dsimp only at d0 d1 d2 d3 d4 d5 d6 d7 d8 HCC;unfold Sm.cells at HCC;dsimp only at HCC;obtain⟨np,hnp⟩:=ey ps.length;obtain⟨nl,hnl⟩:=ey ls.length;obtain⟨ne,hne⟩:=ey es.length;rw[hnp]at d6 HCC;rw[hnl]at d7 HCC;rw[hne]at d8 HCC;obtain⟨C,hC⟩:=ey wr.heap.size;have H2:=HH.out.new #[Aa Ab s0,Aa Ab s1,Aa Ac s2,Aa Ab t0,Aa Ab t1,Aa Ac t2,Ad B1 np np,Ad B2 nl nl,Ad B3 ne ne] 173 hC;have hbq:=Ah ((Ag wr.heap.size wr).alloc (Am _) (.cells #[Aa Ab s0,Aa Ab s1,Aa Ac s2,Aa Ab t0,Aa Ab t1,Aa Ac t2,Ad B1 np np,Ad B2 nl nl,Ad B3 ne ne] 173));subst hA2;clear hs hrw hm1 hx hnp hnl hne;go_upto_region 4 with fail
   try rw[hC]
   obtain⟨W2,hW2⟩:=ez (wr.alloc (.cells #[Aa Ab s0,Aa Ab s1,Aa Ac s2,Aa Ab t0,Aa Ab t1,Aa Ac t2,Ad B1 np np,Ad B2 nl nl,Ad B3 ne ne] 173));rw[←hW2]at H2 hbq⊢;clear hW2;clear d0 d1 d2 d3 d4 d5 d6 d7 d8 hC;have hc6:W2.cell? ⟨N,6,Ae⟩=Af (Ad A n cc):=(By W2 N 6 _ _ (0,0) (H2.blk 0 _ _ _ rfl)).trans rfl;obtain⟨e0,e1,e2,e3,e4,e5,e6,e7,e8⟩:=Wc (H2.blk 1 _ _ _ rfl);go_wp2_with fail;refine(HCC.out _ hbq.out).mono ?_;rintro ee w3 ⟨v,rfl,hv,hb⟩;have H3:=Ah ((H2.call hb).upto 1);clear e0 e1 e2 e3 e4 e5 e6 e7 e8 hc6 hb hbq HCC H2 HH
   cases x with
   |true=>
    have q1:(v != 0)=true:=by simpa using hv
    have HRR:=Ah (HYS.out rfl);clear hv;go_wp2;go_ret;exact⟨by have h:=HRR.out;subst h;rfl,H3.out.below⟩
   |false=>
    have q1:(v != 0)=false:=by simpa using hv
    have HNN2:=Ah (HNX.out rfl);clear HNX HYS hv;go_wp2;exact⟨⟨i+1,Ci,by go_num,H3,HNN2⟩,by simp[intOf];omega⟩
  ·have q0:¬(i:Int)<(m:Int):=Ci
   have hR:R=0:=by
    rw[←HR.out,if_neg];intro hc;obtain⟨s,hs,hcs⟩:=List.any_eq_true.1 hc;obtain⟨j,hj,rfl⟩:=Be.1 hs;rw[HF.out j hj (by have:=HM.out;omega)]at hcs
    cases hcs
   have HRR:=Ah hR;clear hR;go_wp2;go_ret;exact⟨by have h:=HRR.out;subst h;rfl,HH.out.below⟩
theorem Ax1 {w:Aj} {A:Option Addr} {z:List SmZ} (h:Rd w A 9 z.length (z.flatMap smC)) (i:Nat) (hi:i<z.length):
  ∃b o,A=Af ⟨b,o,Ae⟩∧(w.cell? ⟨b,o+i*9,Ae⟩=Af (Aa Ab z[i].1.a.x)∧w.cell? ⟨b,o+i*9+1,Ae⟩=Af (Aa Ab z[i].1.a.y)∧w.cell? ⟨b,o+i*9+2,Ae⟩=Af (Aa Ac z[i].1.a.q)∧w.cell? ⟨b,o+i*9+3,Ae⟩=Af (Aa Ab z[i].1.b.x)∧w.cell? ⟨b,o+i*9+4,Ae⟩=Af (Aa Ab z[i].1.b.y)∧w.cell? ⟨b,o+i*9+5,Ae⟩=Af (Aa Ac z[i].1.b.q)∧
   w.cell? ⟨b,o+i*9+6,Ae⟩=Af (.slice z[i].2.1 z[i].1.ps.length z[i].1.ps.length)∧w.cell? ⟨b,o+i*9+7,Ae⟩=Af (.slice z[i].2.2.1 z[i].1.ls.length z[i].1.ls.length)∧w.cell? ⟨b,o+i*9+8,Ae⟩=Af (.slice z[i].2.2.2 z[i].1.es.length z[i].1.es.length)):=by
 obtain⟨b,o,e,-,hc⟩:=h.2 Ci;have hat:∀f,f<9→(z.flatMap smC)[i*9+f]? =(smC z[i])[f]? :=λf hf=>Dz smC 9 Lm _ i f hi hf;exact⟨b,o,e,⟨hc (i*9+0) _ ((hat 0 Ci).trans rfl),hc (i*9+1) _ ((hat 1 Ci).trans rfl),hc (i*9+2) _ ((hat 2 Ci).trans rfl),hc (i*9+3) _ ((hat 3 Ci).trans rfl),hc (i*9+4) _ ((hat 4 Ci).trans rfl),hc (i*9+5) _ ((hat 5 Ci).trans rfl),hc (i*9+6) _ ((hat 6 Ci).trans rfl),hc (i*9+7) _ ((hat 7 Ci).trans rfl),hc (i*9+8) _ ((hat 8 Ci).trans rfl)⟩⟩
structure Ap6 (w:Aj) (U:Option Addr) (nu:Nat) (up:List Bool) (Kb M:Nat) (mp:List ((Int×Int)×Ak)) (A2:Option Addr) (z:List SmZ):Prop where
 seams:Rd w A2 9 z.length (z.flatMap smC)
 rows:∀x∈z,Rd w x.2.2.1 3 x.1.ls.length (Iu x.1.ls)
 up:Rd w U 1 nu (De up)
 qt:Qt w
 map:Fq unK w M mp
 kb:w.cell? ⟨Kb,0,Ae⟩=Af (.map (Af M))
theorem tR (a b:Int) (pv:Ak) (root:Mv) (sv:Ak) (U:Option Addr) (nu cu:Nat) (up:List Bool) (A2:Option Addr) (z:List SmZ) (m Wb Kb M:Nat) (mp:List ((Int×Int)×Ak)) (cr:List Cr) (w:Aj) (hs:okS a b=true)
  (hW:w.heap[Wb]? =Af (Obj.cells #[.bool false] 4 (0,0))) (hm:m=z.length) (hml:m≤1000000) (hnu:nu=up.length) (HL:∀w',Below Wb w w'→Ap6 w' U nu up Kb M mp A2 z)
  (hkk:∀c e:Nat,(Ji ((c:Int),(e:Int)) mp).getD (Aa Ac 0)= Aa Ac (Cx cr c e)) (hz:∀x∈z,x.1.ls.length≤1000000∧∀y∈x.1.ls,y.2.2<nu):
  Al Tryz.prog 37 #[.agg (Sx a b pv root sv (Ad U nu cu) (Ad A2 m m)),.func (.func 38) #[] #[.pointer (Af ⟨Wb,0,Ae⟩),.pointer (Af ⟨Kb,0,Ae⟩)]] w
   λen w'=>en= .returned (.tuple #[])∧Below Wb w w'∧w'.heap[Wb]? =Af (Obj.cells #[.bool (z.any λx=>x.1.ls.any (Eh a b cr up))] 4 (0,0)):=by
 have HLM:=Ah HL;have HM:=Ah hm;have HZ:=Ah hz;have HKK:=Ah hkk;have HS:=Ah hs;have HNU:=Ah hnu;have hWl:=(Au.1 hW).1;obtain⟨rt,rx,ry⟩:=root;have HKI:=Ah (λ(x:Nat×Nat×Nat) (w':Aj) (h:Rd w' U 1 nu (De up)) (hx:x.2.2<nu)=>yS a b pv ⟨rt,rx,ry⟩ sv (Ad A2 m m) U up nu cu x w' hnu h hx);unfold Sx at HKI⊢;dsimp only at HKI⊢;obtain⟨N,hN⟩:=ey w.heap.size;obtain⟨W,hWd⟩:=ey (w.alloc (.cells #[Aa Ab a,Aa Ab b,pv,Aa Ac rt,Aa Ab rx,Aa Ab ry,sv,Ad U nu cu,Ad A2 m m] 117));have hNb:W.heap[N]? =Af (.cells #[Aa Ab a,Aa Ab b,pv,Aa Ac rt,Aa Ab rx,Aa Ab ry,sv,Ad U nu cu,Ad A2 m m] 117 (0,0)):=by rw[←hWd,←hN];exact Bz w _
 have hbW:Below Wb w W:=by rw[←hWd];exact(Ag Wb w).alloc Ci _
 have hWW:W.heap[Wb]? =Af (Obj.cells #[.bool ((z.take 0).any λx=>x.1.ls.any (Eh a b cr up))] 4 (0,0)):=by rw[←hWd];exact(Below.heap_alloc w _ Wb hWl).trans hW
 have hNW:N≠Wb:=Ci;have HI0:Hid (Below Wb w W∧W.heap[N]? =Af (.cells #[Aa Ab a,Aa Ab b,pv,Aa Ac rt,Aa Ab rx,Aa Ab ry,sv,Ad U nu cu,Ad A2 m m] 117 (0,0))∧W.heap[Wb]? =Af (Obj.cells #[.bool ((z.take 0).any λx=>x.1.ls.any (Eh a b cr up))] 4 (0,0))):=Ah ⟨hbW,hNb,hWW⟩;clear HL hm hz hkk hs hnu hW hWl;go_enter Tryz.func37,Tryz.ntmps37;go_upto_region 1 with fail
 try rw[hN]
 try rw[hWd]
 obtain⟨-,-,-,-,-,-,-,-,c8⟩:=Wc hNb;clear hN hWd hNb hbW hWW;go_wp2_with fail;clear c8
 go_loopw [11] (λs11 wr=>∃i:Nat,i≤m∧s11= Aa Ab i∧Hid (Below Wb w wr∧wr.heap[N]? =Af (.cells #[Aa Ab a,Aa Ab b,pv,Aa Ac rt,Aa Ab rx,Aa Ab ry,sv,Ad U nu cu,Ad A2 m m] 117 (0,0))∧wr.heap[Wb]? =Af (Obj.cells #[.bool ((z.take i).any λx=>x.1.ls.any (Eh a b cr up))] 4 (0,0)))) (λs11 _=>m-(intOf s11).toNat)
 case atStart=>exact⟨0,Ci,rfl,HI0⟩
 case round=>
  obtain⟨i,hi,rfl,HI⟩:=hrel;clear HI0;by_cases hlt:i<m
  ·have hil:i<z.length:=by have:=HM.out;omega
   have q0:(i:Int)<(m:Int):=Ci;have hlm:=HLM.out wr HI.out.1;obtain⟨sb,so,hA2,d0,d1,d2,d3,d4,d5,d6,d7,d8⟩:=Ax1 hlm.seams i hil;have hzm:=HZ.out _ (Ay hil)
   have htk:(z.take (i+1)).any (λx=>x.1.ls.any (Eh a b cr up))=((z.take i).any (λx=>x.1.ls.any (Eh a b cr up))||z[i].1.ls.any (Eh a b cr up)):=by
    rw[Bc hil,List.any_append];simp
   have hrw:=λw' (hb:Below Wb w w')=>(HLM.out w' hb).rows _ (Ay hil);obtain⟨x,hx⟩:=ey (z[i]);rw[hx]at d0 d1 d2 d3 d4 d5 d6 d7 d8 hzm htk hrw;obtain⟨⟨⟨s0,s1,s2⟩,⟨t0,t1,t2⟩,ps,ls,es⟩,B1,B2,B3⟩:=x;dsimp only at d0 d1 d2 d3 d4 d5 d6 d7 d8 hzm htk hrw;obtain⟨np,hnp⟩:=ey ps.length;obtain⟨nl,hnl⟩:=ey ls.length;obtain⟨ne,hne⟩:=ey es.length;rw[hnp]at d6;rw[hnl]at d7 hzm hrw;rw[hne]at d8;have HNL:=Ah hnl;have HZM:=Ah hzm;have HTK:=Ah htk;have HRW:=Ah hrw;have hnl6:=hzm.1;obtain⟨C,hC⟩:=ey wr.heap.size;have hbC:=Bz wr (.cells #[Aa Ab s0,Aa Ab s1,Aa Ac s2,Aa Ab t0,Aa Ab t1,Aa Ac t2,Ad B1 np np,Ad B2 nl nl,Ad B3 ne ne] 173);have hNl:=(Au.1 HI.out.2.1).1;have hWl:=(Au.1 HI.out.2.2).1
   have HJ0:Hid (Below Wb w (wr.alloc (.cells #[Aa Ab s0,Aa Ab s1,Aa Ac s2,Aa Ab t0,Aa Ab t1,Aa Ac t2,Ad B1 np np,Ad B2 nl nl,Ad B3 ne ne] 173))∧(wr.alloc (.cells #[Aa Ab s0,Aa Ab s1,Aa Ac s2,Aa Ab t0,Aa Ab t1,Aa Ac t2,Ad B1 np np,Ad B2 nl nl,Ad B3 ne ne] 173)).heap[N]? =Af (.cells #[Aa Ab a,Aa Ab b,pv,Aa Ac rt,Aa Ab rx,Aa Ab ry,sv,Ad U nu cu,Ad A2 m m] 117 (0,0))∧
     (wr.alloc (.cells #[Aa Ab s0,Aa Ab s1,Aa Ac s2,Aa Ab t0,Aa Ab t1,Aa Ac t2,Ad B1 np np,Ad B2 nl nl,Ad B3 ne ne] 173)).heap[Wb]? =Af (Obj.cells #[.bool ((z.take i).any (λx=>x.1.ls.any (Eh a b cr up))||(ls.take 0).any (Eh a b cr up))] 4 (0,0))):=
    Ah ⟨HI.out.1.alloc Ci _,(Below.heap_alloc wr _ N hNl).trans HI.out.2.1,by rw[List.take_zero,List.any_nil,Bool.or_false];exact(Below.heap_alloc wr _ Wb hWl).trans HI.out.2.2⟩
   rw[hC]at hbC;subst hA2;clear hlm hzm htk hrw hx hnp hnl hne;go_upto_region 4 with fail
   try rw[hC]
   obtain⟨W4,hW4⟩:=ez (wr.alloc (.cells #[Aa Ab s0,Aa Ab s1,Aa Ac s2,Aa Ab t0,Aa Ab t1,Aa Ac t2,Ad B1 np np,Ad B2 nl nl,Ad B3 ne ne] 173));rw[←hW4]at hbC HJ0⊢;clear hW4;clear d0 d1 d2 d3 d4 d5 d6 d7 d8 hC hNl hWl HI;obtain⟨-,-,-,-,-,-,-,e7,-⟩:=Wc hbC;go_wp2_with fail;clear e7 hbC;obtain⟨WX,rfl⟩:=ez wr
   go_loopw [18] (λs18 wr=>∃j:Nat,j≤nl∧s18= Aa Ab j∧Hid (Below Wb w wr∧wr.heap[N]? =Af (.cells #[Aa Ab a,Aa Ab b,pv,Aa Ac rt,Aa Ab rx,Aa Ab ry,sv,Ad U nu cu,Ad (Af ⟨sb,so,Ae⟩) m m] 117 (0,0))∧wr.heap[Wb]? =Af (Obj.cells #[.bool ((z.take i).any (λx=>x.1.ls.any (Eh a b cr up))||(ls.take j).any (Eh a b cr up))] 4 (0,0)))) (λs18 _=>nl-(intOf s18).toNat)
   case atStart=>exact⟨0,Ci,rfl,HJ0⟩
   case round=>
    obtain⟨j,hj,rfl,HJ⟩:=hrel;clear HJ0;by_cases hlt2:j<nl
    ·have hjl:j<ls.length:=by have:=HNL.out;omega
     have q1:(j:Int)<(nl:Int):=Ci;obtain⟨lb,lo,hB2,hlbl,r0,r1,r2⟩:=dU (HRW.out wr HJ.out.1) j hjl
     have hjt:(ls.take (j+1)).any (Eh a b cr up)=((ls.take j).any (Eh a b cr up)||Eh a b cr up ls[j]):=by
      rw[Bc hjl,List.any_append];simp
     have hyn:=HZM.out.2 _ (Ay hjl);obtain⟨y,hy⟩:=ey (ls[j]);rw[hy]at r0 r1 r2 hjt hyn;have hcre:=λw' hQ=>kT a b y w' HS.out hQ;have hkin:=λw' h=>HKI.out y w' h hyn;unfold Eh at hjt;obtain⟨⟨cc,ce⟩,hcc⟩:=ey (Ia a b y);rw[hcc]at hcre hjt;obtain⟨kl,hkl⟩:=ey (aT up y);rw[hkl]at hkin hjt;obtain⟨y0,y1,y2⟩:=y;unfold gJ at hcre hkin;dsimp only at r0 r1 r2 hjt hyn hcre hkin;obtain⟨v,hv⟩:∃x,((z.take i).any (λx=>x.1.ls.any (Eh a b cr up))||(ls.take j).any (Eh a b cr up))=x:=⟨_,rfl⟩
     have hstep:((z.take i).any (λx=>x.1.ls.any (Eh a b cr up))||(ls.take (j+1)).any (Eh a b cr up))=(v||(decide (Cx cr cc ce≠3)&&decide (Cx cr cc ce≠kl))):=by
      unfold Eh at hv⊢;rw[hjt,←hv,Bool.or_assoc]
     rw[hv]at HJ;have HST:=Ah hstep;have HCR:=Ah hcre;have HKN:=Ah hkin;obtain⟨D,hD⟩:=ey wr.heap.size;have hbD:=Bz wr (.cells #[Aa Ac y0,Aa Ab y1,Aa Ab y2] 176);rw[hD]at hbD;have hNl:=(Au.1 HJ.out.2.1).1;have hWl:=(Au.1 HJ.out.2.2).1
     have HJ1:Hid (Below Wb w (wr.alloc (.cells #[Aa Ac y0,Aa Ab y1,Aa Ab y2] 176))∧(wr.alloc (.cells #[Aa Ac y0,Aa Ab y1,Aa Ab y2] 176)).heap[N]? =Af (.cells #[Aa Ab a,Aa Ab b,pv,Aa Ac rt,Aa Ab rx,Aa Ab ry,sv,Ad U nu cu,Ad (Af ⟨sb,so,Ae⟩) m m] 117 (0,0))∧(wr.alloc (.cells #[Aa Ac y0,Aa Ab y1,Aa Ab y2] 176)).heap[Wb]? =Af (Obj.cells #[.bool v] 4 (0,0))):=
      Ah ⟨HJ.out.1.alloc Ci _,(Below.heap_alloc wr _ N hNl).trans HJ.out.2.1,(Below.heap_alloc wr _ Wb hWl).trans HJ.out.2.2⟩
     have hDW:D≠Wb:=Ci;have hDN:D≠N:=Ci;subst hB2;clear hjt hy hcc hkl hv hstep hcre hkin HJ hlbl hyn;go_upto_region 7 with fail
     try rw[hD]
     obtain⟨W7,hW7⟩:=ez (wr.alloc (.cells #[Aa Ac y0,Aa Ab y1,Aa Ab y2] 176));rw[←hW7]at hbD HJ1⊢;clear hW7;clear r0 r1 r2 hD hNl hWl;obtain⟨c0,c1,c2,c3,c4,c5,c6,c7,c8⟩:=Wc HJ1.out.2.1;obtain⟨⟨g0,g1,g2⟩,-⟩:=Cv hbD
     obtain⟨S,hSd⟩:∃S:Aj→Prop,S=λW'=>(W'.cell? ⟨N,0,Ae⟩=Af (Aa Ab a)∧W'.cell? ⟨N,1,Ae⟩=Af (Aa Ab b)∧W'.cell? ⟨N,2,Ae⟩=Af pv∧W'.cell? ⟨N,3,Ae⟩=Af (Aa Ac rt)∧W'.cell? ⟨N,4,Ae⟩=Af (Aa Ab rx)∧W'.cell? ⟨N,5,Ae⟩=Af (Aa Ab ry)∧W'.cell? ⟨N,6,Ae⟩=Af sv∧W'.cell? ⟨N,7,Ae⟩=Af (Ad U nu cu)∧W'.cell? ⟨N,8,Ae⟩=Af (Ad (Af ⟨sb,so,Ae⟩) m m))∧
      W'.cell? ⟨D,0,Ae⟩=Af (Aa Ac y0)∧W'.cell? ⟨D,1,Ae⟩=Af (Aa Ab y1)∧W'.cell? ⟨D,2,Ae⟩=Af (Aa Ab y2):=⟨_,rfl⟩
     have HSO:Hid (∀W',S W'→(W'.cell? ⟨N,0,Ae⟩=Af (Aa Ab a)∧W'.cell? ⟨N,1,Ae⟩=Af (Aa Ab b)∧W'.cell? ⟨N,2,Ae⟩=Af pv∧W'.cell? ⟨N,3,Ae⟩=Af (Aa Ac rt)∧W'.cell? ⟨N,4,Ae⟩=Af (Aa Ab rx)∧W'.cell? ⟨N,5,Ae⟩=Af (Aa Ab ry)∧W'.cell? ⟨N,6,Ae⟩=Af sv∧W'.cell? ⟨N,7,Ae⟩=Af (Ad U nu cu)∧W'.cell? ⟨N,8,Ae⟩=Af (Ad (Af ⟨sb,so,Ae⟩) m m))∧
      W'.cell? ⟨D,0,Ae⟩=Af (Aa Ac y0)∧W'.cell? ⟨D,1,Ae⟩=Af (Aa Ab y1)∧W'.cell? ⟨D,2,Ae⟩=Af (Aa Ab y2)):=Ah λW' h=>by subst hSd;exact h
     have HSA:Hid (∀W',W'.heap[N]? =W7.heap[N]? →W'.heap[D]? =W7.heap[D]? →S W'):=Ah λW' h h'=>by
      have hn:∀f u,W7.cell? ⟨N,f,Ae⟩=Af u→W'.cell? ⟨N,f,Ae⟩=Af u:=λf u hu=>by
       unfold World.cell? at hu⊢;rw[h];exact hu
      have hd:∀f u,W7.cell? ⟨D,f,Ae⟩=Af u→W'.cell? ⟨D,f,Ae⟩=Af u:=λf u hu=>by
       unfold World.cell? at hu⊢;rw[h'];exact hu
      subst hSd;exact⟨⟨hn _ _ c0,hn _ _ c1,hn _ _ c2,hn _ _ c3,hn _ _ c4,hn _ _ c5,hn _ _ c6,hn _ _ c7,hn _ _ c8⟩,hd _ _ g0,hd _ _ g1,hd _ _ g2⟩
     have hNl:=(Au.1 HJ1.out.2.1).1;have hDl:=(Au.1 hbD).1;have hWl:=(Au.1 HJ1.out.2.2).1;clear c0 c1 c2 c3 c4 c5 c6 c7 c8 g0 g1 g2 hSd;refine Ao (S:=S) Cm (HSA.out _ rfl rfl) (λhS=>?_);have hb:Below W7.heap.size W7 W7.drew:=(Ag _ _).drew;obtain⟨X0,hX0⟩:=ez W7.drew;rw[←hX0]at hb hS⊢;clear hX0;refine Ck 0 ?_;refine Ck 1 ?_;refine Ck 2 ?_;refine Ck 3 ?_;refine Ck 4 ?_;refine Ck 5 ?_;refine Ck 7 ?_;refine Ck 8 ?_;refine rdy 6 (λK hK=>?_);go_simp;refine(HCR.out _ (HLM.out _ (HJ1.out.1.trans (hb.mono Ci))).qt).mono ?_;rintro ee X1 ⟨rfl,hbm⟩;have hb:=hb.trans (hbm.mono hb.size);refine hK.out _ _ (HSA.out _ (hb.block N hNl) (hb.block D hDl)) (λhS=>?_);clear hK K hbm;refine rdy 9 (λK hK=>?_);go_simp;refine(HKN.out _ (HLM.out _ (HJ1.out.1.trans (hb.mono Ci))).up).mono ?_;rintro ee X2 ⟨rfl,hbm⟩;have hb:=hb.trans (hbm.mono hb.size);refine hK.out _ _ (HSA.out _ (hb.block N hNl) (hb.block D hDl)) (λhS=>?_);clear hK K hbm;have hlm:=HLM.out X2 (HJ1.out.1.trans (hb.mono Ci));have hck:=wZ cc ce kl (Cx cr cc ce) Wb Kb M mp v X2 ((hb.block Wb hWl).trans HJ1.out.2.2) hlm.kb hlm.map (HKK.out cc ce);have HCK:=Ah hck;clear hlm hck;refine rdy 10 (λK hK=>?_);go_simp;refine HCK.out.mono ?_;rintro ee X3 ⟨rfl,hb3,hw3,hsz3,ho3⟩;have hszb:=hb.size;have hN3:=(ho3 N Ci hNW).trans (hb.block N hNl);refine hK.out _ _ (HSA.out _ hN3 ((ho3 D Ci hDW).trans (hb.block D hDl))) (λhS=>?_)
     have HJ2:Hid (Below Wb w X3∧X3.heap[N]? =Af (.cells #[Aa Ab a,Aa Ab b,pv,Aa Ac rt,Aa Ab rx,Aa Ab ry,sv,Ad U nu cu,Ad (Af ⟨sb,so,Ae⟩) m m] 117 (0,0))∧X3.heap[Wb]? =Af (Obj.cells #[.bool ((z.take i).any (λx=>x.1.ls.any (Eh a b cr up))||(ls.take (j+1)).any (Eh a b cr up))] 4 (0,0))):=
      Ah ⟨(HJ1.out.1.trans (hb.mono Ci)).trans hb3,hN3.trans HJ1.out.2.1,by rw[HST.out];exact hw3⟩
     clear hK K hb hb3 hw3 hsz3 ho3 hN3 hS HSO HSA HCK;refine An Cm ?_ _;go_wp2;exact⟨⟨j+1,Ci,by go_num,HJ2⟩,by simp[intOf];omega⟩
    ·obtain rfl:j=nl:=Ci;have q1:¬(j:Int)<(j:Int):=Ci;have ht:ls.take j=ls:=Bg (by have:=HNL.out;omega)
     have HJ2:Hid (Below Wb w wr∧wr.heap[N]? =Af (.cells #[Aa Ab a,Aa Ab b,pv,Aa Ac rt,Aa Ab rx,Aa Ab ry,sv,Ad U nu cu,Ad (Af ⟨sb,so,Ae⟩) m m] 117 (0,0))∧wr.heap[Wb]? =Af (Obj.cells #[.bool ((z.take (i+1)).any λx=>x.1.ls.any (Eh a b cr up))] 4 (0,0))):=Ah (by
      rw[HTK.out];have:=HJ.out;rw[ht]at this;exact this)
     clear ht;go_wp2;exact⟨⟨i+1,Ci,by go_num,HJ2⟩,by simp[intOf];omega⟩
  ·obtain rfl:i=m:=Ci;have q0:¬(i:Int)<(i:Int):=Ci;have ht:z.take i=z:=Bg (by have:=HM.out;omega);rw[ht]at HI;have HI:=Ah HI.out;clear ht;go_wp2_with fail
   go_end0
   exact⟨rfl,HI.out.1,HI.out.2.2⟩
theorem Ac1 {a b:Int} {cr:List Cr} {root:Mv} {l:List Stk} (hE:Jv a b cr root l=0) (hp:Gx a b cr):
  (∀s∈(Yd a b cr root l).seams,Ty (Cq a b) (3*Cq a b) s)∧(Yd a b cr root l).seams.length≤3*Cq a b:=by
 have hbf:(Df a b cr root).2=0:=by
  unfold Jv at hE
  split at hE
  ·contradiction
  ·rename_i g;exact Classical.not_not.1 g
 obtain⟨h1,h2,h3,h4⟩:=Jc hbf;have hin:kA (Yd a b cr root l) (Cq a b):=⟨rfl,h1,h2,Xo _ _,h3,h4,hp⟩;exact Of hin (3*Cq a b) (Am _)
theorem Ty.perm {N j:Nat} {s t:Sm} (h:Ty N j s) (hp:SmP s t):Ty N j t:=
 ⟨hp.a▸h.qa,hp.b▸h.qb,λp hm=>h.ps p (hp.ps.mem_iff.2 hm),λp hm=>h.ls p (hp.ls.mem_iff.2 hm),hp.ps.length_eq▸h.lp,hp.ls.length_eq▸h.ll,hp.es.length_eq▸h.le⟩
theorem Ax7 {N j:Nat} {ss r:List Sm} (h:wF ss r) (hs:∀s∈ss,Ty N j s):(∀t∈r,Ty N j t)∧r.length=ss.length:=by
 obtain⟨z,h1,rfl,h2⟩:=h;refine⟨λt ht=>?_,by rw[h1.length_eq];simp⟩;obtain⟨p,hp,rfl⟩:=List.mem_map.1 ht;exact(hs p.1 (h1.mem_iff.2 (List.mem_map.2 ⟨p,hp,rfl⟩))).perm (h2 p hp)
theorem Af3 {a b:Int} {cr:List Cr} {root:Mv} {l:List Stk} (hE:Jv a b cr root l=0):(upF a b cr root).1.length=Cq a b:=by
 have hbf:(Df a b cr root).2=0:=by
  unfold Jv at hE
  split at hE
  ·contradiction
  ·rename_i g;exact Classical.not_not.1 g
 obtain⟨h1,-⟩:=Jc hbf;unfold upF;rw[if_neg (λh=>h hbf),Bo,h1]
def kdM (l:List Cr):List ((Int×Int)×Ak):=l.foldl (λm r=>Ma (r.c,r.e) (Aa Ac r.k) m) []
theorem yP (l:List Cr) (i:Nat) (h:i<l.length):kdM (l.take (i+1))=Ma (l[i].c,l[i].e) (Aa Ac l[i].k) (kdM (l.take i)):=by
 unfold kdM;rw[Bc h,List.foldl_append];rfl
theorem Ak0 {l:List Cr} (h:l.Pairwise λr q=>Gd r.c r.e q.c q.e<0) (c e:Int):(Ji (c,e) (kdM l)).getD (Aa Ac 0)= Aa Ac (Cx l c e):=by
 have key:∀(l:List Cr) (m:List ((Int×Int)×Ak)),(l.Pairwise λr q=>Gd r.c r.e q.c q.e<0)→
   Ji (c,e) (l.foldl (λm r=>Ma (r.c,r.e) (Aa Ac r.k) m) m)=match l.find? λr=>decide (r.c=c)&&decide (r.e=e)with|some r=>Af (Aa Ac r.k)|none=>Ji (c,e) m:=by
  intro l
  induction l with
  |nil=>intro m _;rfl
  |cons r t ih=>
   intro m hp;obtain⟨h1,h2⟩:=List.pairwise_cons.1 hp;rw[List.foldl_cons,ih _ h2,Xl,List.find?_cons];by_cases hr:r.c=c∧r.e=e
   ·have hnone:t.find? (λr=>decide (r.c=c)&&decide (r.e=e))=Ae:=by
     rw[List.find?_eq_none];intro q hq hh;simp only[Bool.and_eq_true,decide_eq_true_eq]at hh;have:=h1 q hq;rw[hr.1,hr.2,hh.1,hh.2,dP.2 ⟨rfl,rfl⟩]at this;omega
    rw[hnone];simp[hr.1,hr.2]
   ·have hne:¬((c,e)=(r.c,r.e)):=λx=>hr (by simp at x;exact⟨x.1.symm,x.2.symm⟩)
    have hd:(decide (r.c=c)&&decide (r.e=e))=false:=by
     rw[←Bool.not_eq_true,Bool.and_eq_true,decide_eq_true_eq,decide_eq_true_eq];exact hr
    rw[if_neg hne,hd]
 unfold kdM;rw[key l [] h];unfold Cx
 cases l.find? λr=>decide (r.c=c)&&decide (r.e=e)with
 |none=>rfl
 |some r=>rfl
theorem Bd1 {z:List SmZ} {f:Sm→Bool}:(z.any λx=>f x.1)=(z.map (·.1)).any f:=by
 rw[List.any_map];rfl
theorem Ug (a b:Int) (pA:Option Addr) (cr:List Cr) (pn pc:Nat) (root:Mv) (A:Option Addr) (l:List Stk) (n cc:Nat) (w:Aj) (hp:Gx a b cr) (hpn:pn=cr.length) (hpr:Rd w pA 3 pn (crs cr)) (hpl:pn≤1000000) (ht:root.t≤255)
  (hn:n=l.length) (h:Dh w A l) (hl:n≤100000) (hls:∀x∈l,x.ls.length≤100000) (hqs:∀x∈l,x.c.q≤255) (hQ:Qf w) (hT:Tn w):
  Al Tryz.prog 16 #[.agg #[Aa Ab a,Aa Ab b,Ad pA pn pc,Aa Ac root.t,Aa Ab root.x,Aa Ab root.y,Ad A n cc]] w (Co (Aa Ab (St.chk ⟨a,b,cr,root,l⟩)) w):=by
 have HLK:=Ah (λ(w':Aj) (hb:Below w.heap.size w w')=>yV a b pA cr pn pc root A l n cc w' hp hpn (hpr.below hb) hpl ht hn (h.below hb) hl hls hqs (hQ.below hb) (hT.below hb));have HCX:=Ah (λ(w':Aj) (hb:Below w.heap.size w w') (uv:Ak) (O:Nat) (A2:Option Addr) (r:List Sm) (hr:Gr w' O A2 r) (hml:r.length≤1000000) (hrl:∀s∈r,s.ps.length≤1000000∧s.ls.length≤1000000)=>dC a b (Ad pA pn pc) root A l n cc uv O A2 r r.length w' hn (h.below hb) hl hls rfl hml hr hrl);have HLP:=Ah (λ(U:Option Addr) (nu cu:Nat) (up:List Bool) (A2:Option Addr) (z:List SmZ) (m Wb Kb M:Nat) (w':Aj)=>tR a b (Ad pA pn pc) root (Ad A n cc) U nu cu up A2 z m Wb Kb M (kdM cr) cr w' hp.sheet);have HSO:=Ah (λ(hE:Jv a b cr root l=0)=>Ac1 hE hp);have HUL:=Ah (λ(hE:Jv a b cr root l=0)=>Af3 hE);have HCT:=Ah (Nc hp.sheet);have HKG:=Ah (λc e:Nat=>Ak0 hp.asc (c:Int) (e:Int));have HPR:=Ah (λ(w':Aj) (hb:Below w.heap.size w w')=>hpr.below hb);have HPN:=Ah hpn;have HQ:=Ah (λ(w':Aj) (hb:Below w.heap.size w w')=>hQ.below hb);obtain⟨R,hR⟩:=ey (St.chk ⟨a,b,cr,root,l⟩);rw[hR];unfold St.chk at hR;dsimp only at hR;have HR:=Ah hR;obtain⟨rt,rx,ry⟩:=root;dsimp only at ht⊢;have H:=(Bx.start w).new #[Aa Ab a,Aa Ab b,Ad pA pn pc,Aa Ac rt,Aa Ab rx,Aa Ab ry,Ad A n cc] 33 rfl;clear hp hpn hpr ht hn h hl hls hqs hQ hT hR;obtain⟨E,hE⟩:=ey (Jv a b cr ⟨rt,rx,ry⟩ l);rw[hE]at HLK HSO HUL HR;dsimp only at HLK;go_enter Tryz.func16,Tryz.ntmps16;go_upto_region 1 with fail;obtain⟨N,hN⟩:=ez w.heap.size;rw[←hN]at H⊢;have HNN:=Ah hN;clear hN;obtain⟨W0,hW0⟩:=ez (w.alloc (.cells #[Aa Ab a,Aa Ab b,Ad pA pn pc,Aa Ac rt,Aa Ab rx,Aa Ab ry,Ad A n cc] 33));rw[←hW0]at H⊢;clear hW0;have hc:=λj=>By W0 N j _ _ (0,0) (H.blk 0 _ _ _ rfl);have c0:W0.cell? ⟨N,0,Ae⟩=Af (Aa Ab a):=(hc 0).trans rfl
 have c1:W0.cell? ⟨N,1,Ae⟩=Af (Aa Ab b):=(hc 1).trans rfl;have c2:W0.cell? ⟨N,2,Ae⟩=Af (Ad pA pn pc):=(hc 2).trans rfl;have c3:W0.cell? ⟨N,3,Ae⟩=Af (Aa Ac rt):=(hc 3).trans rfl;have c4:W0.cell? ⟨N,4,Ae⟩=Af (Aa Ab rx):=(hc 4).trans rfl;have c5:W0.cell? ⟨N,5,Ae⟩=Af (Aa Ab ry):=(hc 5).trans rfl;have c6:W0.cell? ⟨N,6,Ae⟩=Af (Ad A n cc):=(hc 6).trans rfl;clear hc hE;go_wp2_with fail;refine(HLK.out _ H.below).mono ?_;rintro ee w1 ⟨hb,hret⟩;have H1:=H.call hb;clear c0 c1 c2 c3 c4 c5 c6 HLK;rcases hret with⟨h0,rfl⟩|⟨rfl,A2,r,U,rfl,hsm,hsa,hru⟩
 ·have q1:(E != 0)=true:=by simpa using h0
  have hRE:R=E:=by rw[←HR.out,if_pos h0]
  subst hRE;unfold Aq6;clear hb H;go_wp2;go_ret;exact⟨rfl,by first|exact H1.below|exact(H1.other _).below⟩
 ·have hsk:=HSO.out rfl;obtain⟨hok,hlen⟩:=Ax7 hsm hsk.1;have hcn:=HCT.out;have hml:r.length≤1000000:=by have:=hsk.2;omega
  have hul:=HUL.out rfl;have hRv:=HR.out;rw[if_neg (λh=>h rfl),eI (P:=Fh l) (λs t h=>fF l s t h) hsm]at hRv;obtain⟨up,hup⟩:=ey ((upF a b cr ⟨rt,rx,ry⟩).1);rw[hup]at hru hul hRv;rw[hup];rw[eI (P:=λx=>x.ls.any (Eh a b cr up)) (λs t h=>oZ s t h) hsm]at hRv;have HRV:=Ah hRv;obtain⟨z,hz1,hz2,hz3⟩:=hsa;have hsa:Gr w1 W0.heap.size A2 r:=⟨z,hz1,hz2,hz3⟩;obtain⟨nu,hnu⟩:=ey up.length;rw[hnu]at hru hul;rw[hnu];have HNU:=Ah hnu;obtain⟨m,hm⟩:=ey r.length;have hzl:z.length=m:=by rw[←hm,←hz1,Bo]
  have HLM:=Ah (λ(w':Aj) (hb:Below w1.heap.size w1 w')=>(⟨(hz2.below hb).rd,λx hx=>((hz3 x hx).same (λg _ hg=>hb.block g hg)).2.1.2.rd,hru.below hb⟩:Rd w' A2 9 z.length (z.flatMap smC)∧(∀x∈z,Rd w' x.2.2.1 3 x.1.ls.length (Iu x.1.ls))∧Rd w' U 1 nu (De up)));have HCX2:=Ah (λ(w':Aj) (hb:Below w1.heap.size w1 w') (uv:Ak)=>HCX.out w' (H1.below.trans (hb.mono H1.below.size)) uv W0.heap.size A2 r (hsa.below hb) hml (λs hs=>⟨by have:=(hok s hs).lp;omega,by have:=(hok s hs).ll;omega⟩));have HZ:=Ah (λx (hx:x∈z)=>(⟨by have:=(hok x.1 (hz1▸List.mem_map.2 ⟨x,hx,rfl⟩)).ll;omega,λy hy=>by have:=((hok x.1 (hz1▸List.mem_map.2 ⟨x,hx,rfl⟩)).ls y hy).2.2;omega⟩:x.1.ls.length≤1000000∧∀y∈x.1.ls,y.2.2<nu));have HZ1:=Ah hz1;have HZL:=Ah hzl;rw[hm]at HCX2 hml;rw[hm];unfold Sx at HCX2⊢;dsimp only at HCX2⊢;obtain⟨X,hX⟩:=ey (r.any (Fh l));rw[hX]at HCX2 HRV;obtain⟨P,hP⟩:=ey w1.heap.size;have H2:=H1.new #[Aa Ab a,Aa Ab b,Ad pA pn pc,Aa Ac rt,Aa Ab rx,Aa Ab ry,Ad A n cc,Ad U nu nu,Ad A2 m m] 117 hP;have hb2:Below w1.heap.size w1 (w1.alloc (.cells #[Aa Ab a,Aa Ab b,Ad pA pn pc,Aa Ac rt,Aa Ab rx,Aa Ab ry,Ad A n cc,Ad U nu nu,Ad A2 m m] 117)):=(Ag _ _).alloc (Am _) _;clear hsk hok hlen hcn hul hRv hz1 hz2 hz3 hsa hru hnu hsm hm hzl hup hb H HR HSO HUL HCT HCX hX;go_upto_region 4 with fail
  try rw[hP]
  obtain⟨w2,hw2⟩:=ez (w1.alloc (.cells #[Aa Ab a,Aa Ab b,Ad pA pn pc,Aa Ac rt,Aa Ab rx,Aa Ab ry,Ad A n cc,Ad U nu nu,Ad A2 m m] 117));rw[←hw2]at H2 hb2⊢;clear hw2;obtain⟨c0,c1,c2,c3,c4,c5,c6,c7,c8⟩:=Wc (H2.blk 1 _ _ _ rfl);have HB2:=Ah hb2;have HPP:=Ah hP;clear H1 hb2 hP;go_wp2_with fail;refine(HCX2.out _ HB2.out _).mono ?_;rintro ee w3 ⟨rfl,hb⟩;have H3:=H2.call hb;have HB3:=Ah (HB2.out.trans (hb.mono HB2.out.size));clear c0 c1 c2 c3 c4 c5 c6 c7 c8 hb H2 HB2 HCX2
  cases X with
  |true=>
   have HRE:Hid (R=12):=Ah (by rw[←HRV.out,if_pos rfl]);simp only[if_true];go_wp2;go_ret;exact⟨by have h:=HRE.out;subst h;rfl,H3.below⟩
  |false=>
   simp only[Bool.false_eq_true,if_false]
   have HRV2:Hid ((if(r.any λx=>x.ls.any (Eh a b cr up))then 13 else 0)=R):=Ah (by
    have h:=HRV.out;rw[if_neg Ct]at h;exact h)
   clear HRV;go_upto_region 7 with fail;obtain⟨M,hM⟩:=ey w3.heap.size;obtain⟨Kb,hKb⟩:=ey (M+1);have hmm:(Instr.makeMap 121 Ae).run Tryz.prog w3= .ok (.map (Af w3.heap.size)) (w3.alloc (.map #[] 0)):=by first|rfl|simp[Instr.makeMap]
   have hmd:=Qb unK w3;rw[hM]at hmm hmd;have H4:=(H3.other (.map #[] 0)).new #[.map (Af M)] 121 (N:=Kb) (by simp;omega);have hM4:=hmd.below ((Ag _ _).alloc (Am _) (.cells #[.map (Af M)] 121)) hmd.lt;have hMw:w.heap.size≤M:=by have:=H3.below.size;omega
   have HB4:=Ah (HB3.out.trans (((Ag w3.heap.size w3).alloc (Am _) (.map #[] 0)).alloc Cn (.cells #[.map (Af M)] 121)|>.mono HB3.out.size));have HMK:Hid (M<Kb):=Ah Ci;have HM1:Hid (w1.heap.size≤M):=Ah (by have:=HB3.out.size;omega);go_upto_region 8 with fail
   try rw[hM]
   try rw[hKb]
   obtain⟨w4,hw4⟩:=ez ((w3.alloc (.map #[] 0)).alloc (.cells #[.map (Af M)] 121));rw[←hw4]at H4 hM4 HB4⊢;clear hw4;clear hM hKb hmm hmd H3 HB3;have hc2:w4.cell? ⟨N,2,Ae⟩=Af (Ad pA pn pc):=(By w4 N 2 _ _ (0,0) (H4.blk 0 _ _ _ rfl)).trans rfl;have HMW:=Ah hMw;have H4:=Ah H4;have hM4:=Ah hM4;clear hMw;go_wp2_with fail;clear hc2
   go_loopw [28] (λs28 wr=>∃k:Nat,k≤pn∧s28= Aa Ab k∧Hid (Bx w [(N,#[Aa Ab a,Aa Ab b,Ad pA pn pc,Aa Ac rt,Aa Ab rx,Aa Ab ry,Ad A n cc],33),(P,#[Aa Ab a,Aa Ab b,Ad pA pn pc,Aa Ac rt,Aa Ab rx,Aa Ab ry,Ad A n cc,Ad U nu nu,Ad A2 m m],117),(Kb,#[.map (Af M)],121)] wr)∧Hid (Fq unK wr M (kdM (cr.take k)))∧Hid (Below w1.heap.size w1 wr)) (λs28 _=>pn-(intOf s28).toNat)
   case atStart=>exact⟨0,Ci,rfl,H4,hM4,HB4⟩
   case round=>
    obtain⟨k,hk,rfl,HH,HMP,HBW⟩:=hrel;clear H4 hM4 HB4;by_cases hlt:k<pn
    ·have hkl:k<cr.length:=by have:=HPN.out;omega
     have hrd:=HPR.out _ HH.out.below;rw[HPN.out]at hrd;obtain⟨bb,o,hA,hbl,d0,d1,d2⟩:=Qz hrd k hkl;have hsn:=yP cr k hkl;obtain⟨q,hq⟩:=ey (cr[k]);rw[hq]at d0 d1 d2 hsn;have HSN:=Ah hsn;have q1:(k:Int)<(pn:Int):=Ci;have hbq:=(Ag wr.heap.size wr).alloc (Am _) (.cells #[Aa Ab q.c,Aa Ac q.e,Aa Ac q.k] 124);have Kr2:=HMP.out.below hbq HMP.out.lt;have Hr2:=HH.out.other (.cells #[Aa Ab q.c,Aa Ac q.e,Aa Ac q.k] 124);have hbw2:=HBW.out.trans (hbq.mono HBW.out.size);have hkb:(wr.alloc (.cells #[Aa Ab q.c,Aa Ac q.e,Aa Ac q.k] 124)).cell? ⟨Kb,0,Ae⟩=Af (.map (Af M)):=(Wd (Hr2.blk 2 _ _ _ rfl)).1;clear hrd hsn hq;subst hA;go_wp2_with (at_mapUpdate;refine Mx Nr Tryz.underlying121 _ rfl _ _ _ rfl M (kdM (cr.take k)) (q.c,q.e) (Aa Ac q.k) rfl rfl rfl Kr2 ?_;intro w9 hk9 hg9);exact⟨⟨k+1,Ci,by go_num,Ah (Hr2.mapped Kr2 hg9 HMW.out),Ah (by rw[HSN.out];exact hk9),Ah (hbw2.grown hg9 hbw2.size (λx hx=>by injection hx with hx;have:=HM1.out;omega))⟩,by simp[intOf];omega⟩
    ·obtain rfl:k=pn:=Ci;have q1:¬(k:Int)<(k:Int):=Ci;have ht:cr.take k=cr:=Bg (by have:=HPN.out;omega);rw[ht]at HMP;clear ht;obtain⟨Wb,hWb⟩:=ey wr.heap.size;have hWn:=Bz wr (.cells #[.bool false] 4);rw[hWb]at hWn;have hbq:=(Ag wr.heap.size wr).alloc (Am _) (.cells #[.bool false] 4);have H5:=HH.out.other (.cells #[.bool false] 4);have hM5:=HMP.out.below hbq HMP.out.lt;have hB5:=HBW.out.trans (hbq.mono HBW.out.size);have hl0:N<Wb:=by have:=HH.out.lt 0 rfl;omega
     have hl1:P<Wb:=by have:=HH.out.lt 1 rfl;omega
     have hl2:Kb<Wb:=by have:=HH.out.lt 2 rfl;omega
     have hl3:w1.heap.size≤Wb:=by have:=HBW.out.size;omega
     have hl4:w.heap.size≤Wb:=by have:=HH.out.below.size;omega
     have hMb:M<Wb:=by have:=HMK.out;omega
     have hkb:∀w',Below Wb (wr.alloc (.cells #[.bool false] 4)) w'→w'.cell? ⟨Kb,0,Ae⟩=Af (.map (Af M)):=λw' hb=>(Wd ((hb.block Kb hl2).trans (H5.blk 2 _ _ _ rfl))).1;have HLPM:=Ah (λ(w':Aj) (hb:Below Wb (wr.alloc (.cells #[.bool false] 4)) w')=>(⟨(HLM.out w' (hB5.trans (hb.mono hl3))).1,(HLM.out w' (hB5.trans (hb.mono hl3))).2.1,(HLM.out w' (hB5.trans (hb.mono hl3))).2.2,(HQ.out w' (H5.below.trans (hb.mono hl4))).qt,hM5.below hb hMb,hkb w' hb⟩:Ap6 w' U nu up Kb M (kdM cr) A2 z));have HLP2:=Ah (HLP.out U nu nu up A2 z m Wb Kb M (wr.alloc (.cells #[.bool false] 4)) hWn HZL.out.symm hml HNU.out.symm HLPM.out (λc e=>HKG.out c e) HZ.out)
     have hkeep:=λw' (hb:Below Wb (wr.alloc (.cells #[.bool false] 4)) w')=>H5.keepN (M:=Wb) (λx hx=>by
      simp only[Bk,List.not_mem_nil,or_false]at hx;rcases hx with rfl|rfl|rfl
      ·exact hl0
      ·exact hl1
      ·exact hl2) hl4 hb
     have HKP:=Ah hkeep;unfold Sx at HLP2;dsimp only at HLP2;obtain⟨c0,c1,c2,c3,c4,c5,c6,c7,c8⟩:=Wc (H5.blk 1 _ _ _ rfl);have HZA:Hid ((z.any λx=>x.1.ls.any (Eh a b cr up))=r.any λx=>x.ls.any (Eh a b cr up)):=Ah (by rw[←HZ1.out];exact Bd1 (f:=λs=>s.ls.any (Eh a b cr up)));obtain⟨Y,hY⟩:∃x,(z.any λx=>x.1.ls.any (Eh a b cr up))=x:=⟨_,rfl⟩;rw[hY]at HLP2 HZA;clear hWn hbq hM5 hB5 hl0 hl1 hl2 hl3 hl4 hMb hkb hkeep H5 hY HH HMP HBW HLPM HLP HLM;go_upto_region 14 with fail
     try rw[hWb]
     obtain⟨w5,hw5⟩:=ez (wr.alloc (.cells #[.bool false] 4));rw[←hw5]at HLP2 HKP c0 c1 c2 c3 c4 c5 c6 c7 c8⊢;clear hw5;clear hWb;go_wp2_with fail;refine HLP2.out.mono ?_;rintro ee w6 ⟨rfl,hb6,hw6⟩;have H6:=HKP.out w6 hb6;obtain⟨g0,-⟩:=Wd hw6;clear c0 c1 c2 c3 c4 c5 c6 c7 c8 hb6 hw6 HLP2 HKP
     cases Y with
     |true=>
      have HRE:Hid (R=13):=Ah (by rw[←HRV2.out,←HZA.out];rfl);go_wp2;go_ret;exact⟨by have h:=HRE.out;subst h;rfl,H6.below⟩
     |false=>
      have HRE:Hid (R=0):=Ah (by rw[←HRV2.out,←HZA.out];rfl);go_wp2;go_ret;exact⟨by have h:=HRE.out;subst h;rfl,H6.below⟩
structure Gs (s:St):Prop where
 pat:Gx s.a s.b s.cr
 chk:s.chk=0
theorem Gs.stk {s:St} (h:Gs s):Jv s.a s.b s.cr s.root s.l=0:=by
 have:=h.chk;unfold St.chk at this
 split at this
 ·contradiction
 ·rename_i g;exact Classical.not_not.1 g
theorem Gs.both {s:St} (h:Gs s):(Df s.a s.b s.cr s.root).2=0:=by
 have:=h.stk;unfold Jv at this
 split at this
 ·contradiction
 ·rename_i g;exact Classical.not_not.1 g
theorem Gs.root {s:St} (h:Gs s):s.root.ok=true:=by
 cases hr:s.root.ok with
 |true=>rfl
 |false=>
  have:=h.both;rw[Rc _ _ _ _ hr]at this
  cases this
theorem gV {m:Mv} (h:m.ok=true):m.t<8:=by
 have:=(Mg.1 h).1;omega
theorem Gs.chkS {s:St} (h:Gs s):chkS (Cq s.a s.b) s.l=0:=by
 have:=h.stk;unfold Jv at this
 split at this
 ·contradiction
 ·split at this
  ·contradiction
  ·rename_i g;exact Classical.not_not.1 g
theorem aY:∀(n:Nat) (l:List Nat),l.Nodup→(∀x∈l,x<n)→l.length≤n
 |0,l,_,hb=>by
  cases l with
  |nil=>simp
  |cons x r=>exact absurd (hb x Cn) (Nat.not_lt_zero _)
 |n+1,l,hn,hb=>by
  have h1:=aY n (l.erase n) (hn.erase n) λx hx=>by
   have h2:=(hn.mem_erase_iff).1 hx;have:=hb x h2.2;have:=h2.1;omega
  have h2:l.length≤(l.erase n).length+1:=by
   by_cases hm:n∈l
   ·rw[List.length_erase_of_mem hm];omega
   ·rw[List.erase_of_not_mem hm];omega
  omega
theorem Ae0 (l:List Stk):Fc l=(Cw l).length:=by
 unfold Fc Cw;rw[List.length_flatMap]
theorem Ay1 {n:Nat} {l:List Stk} {i:Nat} (hi:i<l.length) (h:Ft n l i=false):l[i].c.ok=true∧l[i].ls≠[]∧∀id∈l[i].ls,id<n:=by
 unfold Ft at h;rw[Aw hi]at h;simp only[Bool.or_eq_false_iff,Bool.not_eq_false',List.isEmpty_eq_false_iff,List.any_eq_false,decide_eq_true_eq]at h;exact⟨h.1.1.1,h.1.2,λid hid=>by have:=h.2 id hid;omega⟩
theorem To {n:Nat} {l:List Stk} {i:Nat} (hi:i+1<l.length) (h:Ft n l (i+1)=false):Fg l[i].c l[i+1].c<0:=by
 unfold Ft at h;rw[Aw hi]at h;simp only[Bool.or_eq_false_iff,Aw (show i<l.length by omega),decide_eq_false_iff_not]at h;have:=h.1.1.2;omega
theorem Gs.at {s:St} (h:Gs s):∀x∈s.l,x.c.ok=true∧x.ls≠[]∧∀id∈x.ls,id<Cq s.a s.b:=λx hx=>by
 obtain⟨i,hi,rfl⟩:=Be.1 hx;exact Ay1 hi ((Gj h.chkS).1 i hi)
theorem Gs.tot {s:St} (h:Gs s):Fc s.l≤1024:=by
 rw[Ae0];have:=Nc h.pat.sheet;refine Br (aY (Cq s.a s.b) _ (Gj h.chkS).2.1 λx hx=>?_) this;obtain⟨y,hy,hxy⟩:=List.mem_flatMap.1 hx;exact(h.at y hy).2.2 x hxy
theorem qK:∀{l:List Stk},(∀x∈l,x.ls≠[])→l.length≤Fc l
 |[],_=>Cn
 |y::r,h=>by
  have h1:=qK (l:=r) λx hx=>h x (List.mem_cons_of_mem _ hx);have h2:0<y.ls.length:=List.length_pos_iff.2 (h y Cn);simp[Fc]at h1⊢;omega
theorem Gs.len {s:St} (h:Gs s):s.l.length≤1024:=Br (qK λx hx=>(h.at x hx).2.1) h.tot
theorem Gs.ls {s:St} (h:Gs s):∀x∈s.l,x.ls.length≤1024:=λ_ hx=>Br (Lw hx) h.tot
theorem Gs.q {s:St} (h:Gs s):∀x∈s.l,x.c.q≤255:=λx hx=>by
 have:=(Eu.1 (h.at x hx).1).2.2.2.2;omega
theorem Gs.pn {s:St} (h:Gs s):s.cr.length≤262400:=Uh h.pat.fit h.pat.asc
theorem Gs.img_len {s:St} (h:Gs s):(Df s.a s.b s.cr s.root).1.2.length=Cq s.a s.b:=(Jc h.both).2.1
structure Ay5 (w:Aj) (cs:List Ak) (s:St):Prop where
 held:∃pA pc A cc,cs=[Aa Ab s.a,Aa Ab s.b,Ad pA s.cr.length pc,Aa Ac s.root.t,Aa Ab s.root.x,Aa Ab s.root.y,Ad A s.l.length cc]∧AOk pA s.cr.length pc∧Rd w pA 3 s.cr.length (crs s.cr)∧Dh w A s.l
end Go.Proofs.YthpcfeifmdbhnaaGreatDoor
namespace Go.Proofs.YthpcfeifmdbhnaaGreatDoor
def St.mv (s:St) (f:Fd):Option (List Stk):=Mf (ofL f.k f.c) (Hq (Dc f.k f.c f.side s.l))
def St.rt (s:St) (f:Fd):Mv×Int:=if Dy f.k f.c (s.img 0)=f.side then Pm s.root (ofL f.k f.c)else (s.root,0)
def St.kf (s:St) (f:Fd) (i:Nat):Int:=if(upF s.a s.b s.cr s.root).1.getD i false=f.over then 2 else 1
def St.to (s:St) (f:Fd) (mv:List Stk):St:=⟨s.a,s.b,Jg (s.cr++Hg (Hd s f.k f.c) (s.kf f)),(s.rt f).1,if f.over then Ev (Dc f.k f.c (1-f.side) s.l) mv else Ev mv (Dc f.k f.c (1-f.side) s.l)⟩
theorem pY (s:St) (f:Fd):s.fold f=if Le f.k f.c f.side=false then ((1:Int),(Ae:Option St))else if(Hd s f.k f.c).isEmpty then (7,Ae)else match s.mv f with
  |none=>(3,Ae)
  |some mv=>if(s.rt f).2≠0 then (3,Ae)else if(s.to f mv).chk=0 then (0,Af (s.to f mv))else (3,Ae):=rfl
theorem yQ (s:St) (f:Fd) (i:Nat):s.kf f i=1∨s.kf f i=2:=by
 unfold St.kf
 split
 ·exact .inr rfl
 ·exact .inl rfl
theorem gY {s:St} (hp:Gx s.a s.b s.cr) (f:Fd) (mv:List Stk):Gx (s.to f mv).a (s.to f mv).b (s.to f mv).cr:=tZ hp f.k f.c (s.kf f) (yQ s f)
end Go.Proofs.YthpcfeifmdbhnaaGreatDoor
namespace Go.Proofs.YthpcfeifmdbhnaaGreatDoor
open Go.RowKit
structure Off (O M:Nat) (w w':Aj):Prop where
 os:w'.os=w.os
 tape:w'.tape=w.tape
 output:w'.output=w.output
 size:w.heap.size≤w'.heap.size
 block:∀k,k<O→k≠M→w'.heap[k]? =w.heap[k]?
theorem Off.refl (O M:Nat) (w:Aj):Off O M w w:=⟨rfl,rfl,rfl,Am _,λ_ _ _=>rfl⟩
theorem Off.below {O M:Nat} {a b c:Aj} (h:Off O M a b) (k:Below O b c):Off O M a c:=
 ⟨k.os.trans h.os,k.tape.trans h.tape,k.output.trans h.output,Br h.size k.size,λi hi hm=>(k.block i hi).trans (h.block i hi hm)⟩
theorem Off.put {O M:Nat} {a b c:Aj} (h:Off O M a b) (hO:O≤b.heap.size) (k:b.grownBy c (Af M)):Off O M a c:=
 ⟨k.os.trans h.os,k.tape.trans h.tape,k.output.trans h.output,Br h.size k.size,λi hi hm=>(k.block i Ci (by simpa using hm)).trans (h.block i hi hm)⟩
theorem Off.back {O M B:Nat} {a w w':Aj} (h:Off O M w w') (k:Below B a w) (hO:B≤O) (hM:B≤M):Below B a w':=
 k.trans ⟨h.os,h.tape,h.output,h.size,λi hi=>h.block i Ci Ci⟩
theorem Rd.off {O M:Nat} {w w':Aj} {A:Option Addr} {sz n:Nat} {xs:List Ak} (h:Rd w A sz n xs) (hO:w.heap.size≤O) (k:Off O M w w') (hM:∃es c,w.heap[M]? =Af (.map es c)):Rd w' A sz n xs:=by
 refine⟨h.1,λhn=>?_⟩;obtain⟨b,o,rfl,hb,hc⟩:=h.2 hn;have hsz:=k.size;refine⟨b,o,rfl,Ci,λj u hu=>?_⟩;have hcu:=hc j u hu
 have hne:b≠M:=by
  rintro rfl;obtain⟨es,c,hm⟩:=hM;simp[World.cell?,hm]at hcu
 rw[World.cell?_of_block (w:=w) (a:=⟨b,o+j,Ae⟩) (k.block b Ci hne)];exact hcu
theorem Dh.off {O M:Nat} {w w':Aj} {A:Option Addr} {l:List Stk} (h:Dh w A l) (hO:w.heap.size≤O) (k:Off O M w w') (hM:∃es c,w.heap[M]? =Af (.map es c)):Dh w' A l:=by
 obtain⟨hs,h1,h2,h3⟩:=h;exact⟨hs,h1,h2.off hO k hM,λi hi hi'=>⟨(h3 i hi hi').1,(h3 i hi hi').2.1,(h3 i hi hi').2.2.1,(h3 i hi hi').2.2.2.off hO k hM⟩⟩
theorem Dd.lowM {O:Nat} {w w':Aj} {v:Ak} {l:List SkR} (h:Dd O w v l) (k:∀g,O≤g→g<w.heap.size→w'.heap[g]? =w.heap[g]?):Dd O w' v l:=by
 refine⟨⟨h.1.1,h.1.2.imp id λ⟨g,cap,cur,r1,r2,r3,r4⟩=>⟨g,cap,cur,r1,r2,(k g r2 (Au.1 r3).1).trans r3,r4⟩⟩,λx hx=>(h.2.1 x hx).same λg hg=>?_,h.2.2⟩;have:=(h.2.1 x hx).lt g hg;exact k g this.1 this.2.1
structure OvI (O M:Nat) (w0 wr:Aj) (v:Ak) (zl:List SkR):Prop where
 out:Dd O wr v zl
 cap:∀x∈zl,Oi wr x
 mp:Fq clK wr M (Hn (zl.map (·.1)) 0)
 off:Off O M w0 wr
 top:O≤wr.heap.size
 low:M<O
theorem OvI.below {O M:Nat} {w0 wr w':Aj} {v:Ak} {zl:List SkR} (h:OvI O M w0 wr v zl) (hb:Below wr.heap.size wr w'):OvI O M w0 w' v zl:=
 ⟨h.out.below hb,λx hx=>(h.cap x hx).same λg hg=>hb.block g ((h.out.2.1 x hx).lt g hg).2.1,h.mp.below hb h.mp.lt,h.off.below (hb.mono h.top),Br h.top hb.size,h.low⟩
theorem Qq {w w':Aj} {row:Option Nat} {O:Nat} (hg:w.grownBy w' row) (hO:O≤w.heap.size) (hr:∀g,row=Af g→O≤g):Below O w w':=(Ag O w).grown hg hO hr
theorem OvI.snoc {O M:Nat} {w0 wr W1 W2 W3:Aj} {v v':Ak} {zl:List SkR} {x:SkR} (h:OvI O M w0 wr v zl) (hp:No x.1.c (zl.map (·.1)) 0=Ae)
  (h1:Fq clK W1 M (Ma x.1.c (Aa Ab (zl.length:Int)) (Hn (zl.map (·.1)) 0))) (k1:wr.grownBy W1 (Af M)) (hb:Below W1.heap.size W1 W2) (hx:Ir W1.heap.size W2 x) (hc:Oi W2 x) (ho:Dd O W3 v' (zl++[x])) (hg:W2.grownBy W3 v.ownBlock):OvI O M w0 W3 v' (zl++[x]):=by
 have hO1:O≤W1.heap.size:=Br h.top k1.size;have hO2:O≤W2.heap.size:=Br hO1 hb.size;have hv:∀g,v.ownBlock=Af g→O≤g:=λg hg=>(h.out.1.lt g hg).1
 have hM1:Fq clK W1 M (Hn ((zl++[x]).map (·.1)) 0):=by
  rw[List.map_append];have e:=Aa3 x.1 (zl.map (·.1)) hp;rw[Bo]at e;rw[List.map_cons,List.map_nil,←e];exact h1
 have hM:Fq clK W3 M (Hn ((zl++[x]).map (·.1)) 0):=(hM1.below hb hM1.lt).kept hg (λe=>by have:=hv M e.symm;have:=h.low;omega);have hb3:Below O W2 W3:=Qq hg hO2 hv
 have hsame:∀y∈zl,∀g∈Fp y,W3.heap[g]? =wr.heap[g]? :=λy hy g hgy=>by
  have hk:=h.out.2.1 y hy;have hlt:=hk.lt g hgy;have h1:g<W1.heap.size:=Bq hlt.2.1 k1.size;have h2:g<W2.heap.size:=Bq h1 hb.size;rw[hg.block g h2 (Ne.symm (Ph h.out.1 hk g hgy)),hb.block g h1,k1.block g hlt.2.1 (by have:=h.low;simp;omega)]
 refine⟨ho,λy hy=>?_,hM,((h.off.put h.top k1).below (hb.mono hO1)).below hb3,Br hO2 hg.size,h.low⟩;rcases Bl.1 hy with hy|hy
 ·exact(h.cap y hy).same (hsame y hy)
 ·obtain rfl:=List.mem_singleton.1 hy;refine hc.same λg hgy=>hg.block g (hx.lt g hgy).2.1 λe=>?_;have a1:=(h.out.1.lt g e.symm).2;have a2:=(hx.lt g hgy).1;have:=k1.size;omega
theorem OvI.poke {O M:Nat} {w0 wr W1:Aj} {G n c:Nat} {zl:List SkR} {i:Nat} (h:OvI O M w0 wr (Ad (Af ⟨G,0,Ae⟩) n c) zl) (hi:i<zl.length) (ys:List Nat) (A':Option Addr) (c':Nat)
  (hx:Ir O W1 (⟨zl[i].1.c,zl[i].1.ls++ys⟩,(A',c'))) (hc:Oi W1 (⟨zl[i].1.c,zl[i].1.ls++ys⟩,(A',c'))) (hg:wr.grownBy W1 (zl[i].2.1.map (·.block))) (hA:A'.map (·.block)=zl[i].2.1.map (·.block)∨A'.map (·.block)=Af wr.heap.size):
  OvI O M w0 (W1.setCell ⟨G,i*4+3,Ae⟩ (Ad A' (zl[i].1.ls++ys).length c')) (Ad (Af ⟨G,0,Ae⟩) n c) (zl.set i (⟨zl[i].1.c,zl[i].1.ls++ys⟩,(A',c')))∧(∃u,W1.cell? ⟨G,i*4+3,Ae⟩=Af u)∧W1.frozen? ⟨G,i*4+3,Ae⟩=false:=by
 obtain⟨x',hx'⟩:∃z:SkR,(⟨zl[i].1.c,zl[i].1.ls++ys⟩,(A',c'))=z:=⟨_,rfl⟩;obtain⟨x0,hx0⟩:=ey (zl[i]);have hl':(zl[i].1.ls++ys).length=x'.1.ls.length:=by rw[←hx']
 have hA0:A'=x'.2.1:=by rw[←hx']
 have hc0:c'=x'.2.2:=by rw[←hx']
 rw[hl'];rw[hx']at hx hc⊢;rw[hA0]at hA⊢;rw[hc0];have hcell:x'.1.c=x0.1.c:=by rw[←hx',←hx0]
 rw[hx0]at hg hA;have hmem:x0∈zl:=hx0▸Ay hi;have hk0:=h.out.2.1 x0 hmem
 have hn:n=zl.length:=by
  obtain⟨_,_,e,-⟩:=Dv h.out.1;simp at e;exact e.2.1
 subst hn;have hGO:O≤G:=(h.out.1.lt G rfl).1;have hGs:G<wr.heap.size:=(h.out.1.lt G rfl).2;have hG0:G∉Fp x0:=λhm=>Ph h.out.1 hk0 G hm rfl;have hGW:W1.heap[G]? =wr.heap[G]? :=hg.block G hGs λe=>hG0 (by unfold Fp;rw[←e];simp)
 have hown1:W1.ownsRow O 89 4 (Ad (Af ⟨G,0,Ae⟩) zl.length c) zl.length (zl.flatMap Eg):=Dr h.out.1 λg hgv=>by
  obtain rfl:G=g:=by simpa[Value.ownBlock]using hgv
  exact hGW
 have s4:=Ge hown1 (Es W1 (Af G)) (i*4+3) (Ad x'.2.1 x'.1.ls.length x'.2.2)
 have hset:(zl.flatMap Eg).set (i*4+3) (Ad x'.2.1 x'.1.ls.length x'.2.2)=(zl.set i x').flatMap Eg:=by
  refine(Jo Eg 4 Gm zl i 3 hi Ci x' _ ?_).symm;rw[hx0];simp[Eg,hcell]
 rw[hset]at s4;have hsz1:=hg.size;have hlow:=h.low
 have hst:∀g,g<wr.heap.size→g∉Fp x0→g≠G→(W1.setCell ⟨G,i*4+3,Ae⟩ (Ad x'.2.1 x'.1.ls.length x'.2.2)).heap[g]? =wr.heap[g]? :=λg h1 h2 h3=>by
  rw[Below.heap_setCell _ ⟨G,i*4+3,Ae⟩ _ g h3];exact hg.block g h1 λe=>h2 (by unfold Fp;rw[←e];simp)
 have hxb:∀g∈Fp x',g∈Fp x0∨g=wr.heap.size:=λg hgx=>by
  unfold Fp at hgx⊢;rcases hA with e|e
  ·rw[e]at hgx;exact .inl hgx
  ·rw[e]at hgx;simp at hgx;exact .inr hgx
 have hxG:∀g∈Fp x',g≠G:=λg hgx e=>by
  rcases hxb g hgx with h1|h1
  ·exact hG0 (e▸h1)
  ·omega
 have e0:zl=zl.take i++x0::zl.drop (i+1):=by rw[←hx0,←List.drop_eq_getElem_cons hi,List.take_append_drop]
 have hnd:=h.out.2.2;rw[e0]at hnd;simp only[Bi,Bf,Bp,Bl]at hnd;obtain⟨a1,⟨a2,a3,a4⟩,a5⟩:=hnd
 have hrest:∀y∈zl.take i++zl.drop (i+1),y∈zl∧∀g∈Fp y,g∉Fp x0:=λy hy=>by
  rcases Bl.1 hy with hy|hy
  ·exact⟨List.mem_of_mem_take hy,λg hg h0=>a5 g (List.mem_flatMap.2 ⟨y,hy,hg⟩) g (.inl h0) rfl⟩
  ·exact⟨List.mem_of_mem_drop hy,λg hg h0=>a4 g h0 g (List.mem_flatMap.2 ⟨y,hy,hg⟩) rfl⟩
 have hsame:∀y∈zl.take i++zl.drop (i+1),∀g∈Fp y,(W1.setCell ⟨G,i*4+3,Ae⟩ (Ad x'.2.1 x'.1.ls.length x'.2.2)).heap[g]? =wr.heap[g]? :=λy hy g hgy=>by
  obtain⟨hyz,hyn⟩:=hrest y hy;have hky:=h.out.2.1 y hyz;exact hst g (hky.lt g hgy).2.1 (hyn g hgy) λe=>Ph h.out.1 hky g hgy (by rw[e];rfl)
 have hxs:∀g∈Fp x',(W1.setCell ⟨G,i*4+3,Ae⟩ (Ad x'.2.1 x'.1.ls.length x'.2.2)).heap[g]? =W1.heap[g]? :=λg hgx=>Below.heap_setCell _ ⟨G,i*4+3,Ae⟩ _ g (hxG g hgx)
 have hmemset:∀y∈zl.set i x',y=x'∨y∈zl.take i++zl.drop (i+1):=λy hy=>by
  rw[Vb zl i hi]at hy;rcases Bl.1 hy with hy|hy
  ·exact .inr (Bl.2 (.inl hy))
  ·rcases Bk.1 hy with hy|hy
   ·exact .inl hy
   ·exact .inr (Bl.2 (.inr hy))
 have hcells:(zl.set i x').map (·.1)=(zl.map (·.1)).set i x'.1:=by rw[List.map_set]
 have hm1:Fq clK W1 M (Hn (zl.map (·.1)) 0):=h.mp.kept hg λe=>by
  have:=(hk0.lt M (by unfold Fp;rw[←e];simp)).1;omega
 have hold:∀g,g∈(zl.take i).flatMap Fp∨g∈(zl.drop (i+1)).flatMap Fp→g<wr.heap.size:=λg hg=>by
  rcases hg with hg|hg
  ·obtain⟨y,hy,hgy⟩:=List.mem_flatMap.1 hg;exact((h.out.2.1 y (List.mem_of_mem_take hy)).lt g hgy).2.1
  ·obtain⟨y,hy,hgy⟩:=List.mem_flatMap.1 hg;exact((h.out.2.1 y (List.mem_of_mem_drop hy)).lt g hgy).2.1
 refine⟨⟨⟨by rw[List.length_set];exact s4.1,λy hy=>?_,?_⟩,λy hy=>?_,?_,?_,?_,hlow⟩,?_,Nm hown1 _⟩
 ·rcases hmemset y hy with rfl|hy
  ·exact hx.same hxs
  ·exact(h.out.2.1 y (hrest y hy).1).same (hsame y hy)
 ·rw[Vb zl i hi];simp only[Bi,Bf,Bp,Bl];refine⟨a1,⟨Ro _,a3,λa ha b hb e=>?_⟩,λa ha b hb e=>?_⟩
  ·subst e;rcases hxb a ha with h1|h1
   ·exact a4 a h1 a hb rfl
   ·have:=hold a (.inr hb);omega
  ·subst e;rcases hb with hb|hb
   ·rcases hxb a hb with h1|h1
    ·exact a5 a ha a (.inl h1) rfl
    ·have:=hold a (.inl ha);omega
   ·exact a5 a ha a (.inr hb) rfl
 ·rcases hmemset y hy with rfl|hy
  ·exact hc.same hxs
  ·exact(h.cap y (hrest y hy).1).same (hsame y hy)
 ·rw[hcells,Yj x'.1 (zl.map (·.1)) 0 i (by simpa using hi) (by simp[hx0,hcell])];obtain⟨es,clock,m1,m2⟩:=hm1;exact⟨es,clock,(Below.heap_setCell _ ⟨G,i*4+3,Ae⟩ _ M (by show M≠G;omega)).trans m1,m2⟩
 ·have hb1:Below O wr W1:=Qq hg h.top λg e=>(hk0.lt g (by unfold Fp;rw[e];simp)).1;exact(h.off.below hb1).below ((Ag O W1).setCell (p:=⟨G,i*4+3,Ae⟩) hGO _)
 ·simp;have:=h.top;omega
 ·have hlen:=Fv Eg 4 Gm zl;obtain⟨b,o,e,-,hcc⟩:=(Rd.of_own hown1).2 Ci;obtain⟨rfl,rfl⟩:G=b∧0=o:=by simpa using e
  have:=hcc (i*4+3) _ (Aw (l:=zl.flatMap Eg) (by rw[hlen];omega));rw[Bt]at this;exact⟨_,this⟩
theorem nH {c:Cl} {l:List Stk} {i:Nat} (h:No c l 0=Af i):∃h:i<l.length,l[i].c=c:=by simpa using(Qi h).2
theorem kG {x:Stk} {l:List Stk} {i:Nat} (h:No x.c l 0=Af i):∃h:i<l.length,Il x l=l.set i ⟨x.c,l[i].ls++x.ls⟩:=by simpa using Mz h
theorem Dd.elem {O n c:Nat} {w:Aj} {A:Option Addr} {l:List SkR} (h:Dd O w (Ad A n c) l) (i:Nat) (hi:i<l.length):
  ∃G,A=Af ⟨G,0,Ae⟩∧n=l.length∧O≤G∧G<w.heap.size∧w.cell? ⟨G,i*4,Ae⟩=Af (Aa Ab l[i].1.c.x)∧w.cell? ⟨G,i*4+1,Ae⟩=Af (Aa Ab l[i].1.c.y)∧w.cell? ⟨G,i*4+2,Ae⟩=Af (Aa Ac (l[i].1.c.q:Int))∧w.cell? ⟨G,i*4+3,Ae⟩=Af (.slice l[i].2.1 l[i].1.ls.length l[i].2.2):=by
 obtain⟨A',c',hv,-,-⟩:=Dv h.1;obtain⟨rfl,rfl,rfl⟩:A=A'∧n=l.length∧c=c':=by simpa using hv
 have hb:=h.1.lt;rcases h.1.2 with⟨-,h0⟩|⟨g,cap,cur,hv2,-⟩
 ·omega
 obtain⟨rfl,rfl⟩:A=Af ⟨g,0,Ae⟩∧c=cap:=by simpa using hv2
 obtain⟨b,o,e,-,hcc⟩:=(Rd.of_own h.1).2 Ci;obtain⟨rfl,rfl⟩:g=b∧0=o:=by simpa using e
 have hat:∀f,f<4→(l.flatMap Eg)[i*4+f]? =(Eg l[i])[f]? :=λf hf=>Dz Eg 4 Gm l i f hi hf
 have hc2:∀f v,f<4→(Eg l[i])[f]? =Af v→w.cell? ⟨g,i*4+f,Ae⟩=Af v:=λf v hf hv=>by
  have:=hcc (i*4+f) v ((hat f hf).trans hv)
  rwa [Bt]at this
 exact⟨g,rfl,rfl,(hb g rfl).1,(hb g rfl).2,hc2 0 _ Ci rfl,hc2 1 _ Ci rfl,hc2 2 _ Ci rfl,hc2 3 _ Ci rfl⟩
end Go.Proofs.YthpcfeifmdbhnaaGreatDoor
