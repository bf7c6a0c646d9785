import Derived.Test.YteoffhpfcgffcaaGreatDoorQKnl
import Derived.Test.YteoffhpfcgffcaaGreatDoorQCrd
import Derived.Test.YteoffhpfcgffcaaGreatDoorQBat
import Derived.Test.YteoffhpfcgffcaaGreatDoorQCfc
open Array renaming getElem?_eq_some_iff→Aq
open Go renaming Calls→Ai,Value→Ah,World→Ag,bodyPost_ret→Af,cell_of_row→Bs,heap_alloc_new→Bt,wpAnyH_done→Ak,wp_region_held_drew→Al
open Go.IntKind renaming i64→Ab,u8→Ac
open Go.Lib renaming hid→Ae
open Go.Value renaming int→Aa,slice→Ad
open List renaming flatMap_append→Bf,flatMap_cons→Ba,getElem?_eq_getElem→Ar,getElem_cons_succ→Bz,getElem_cons_zero→By,getElem_mem→Au,getElem_toArray→Ca,length_map→Bk,mem_append→Bi,mem_cons→Bh,mem_iff_getElem→Ay,nodup_append→Bl,setIfInBounds_toArray→Cd,set_cons_succ→Cc,set_cons_zero→Cb,take_of_length_le→Bc,take_succ_eq_append_getElem→Ax
open Nat renaming le_refl→Aj,le_trans→Bo,lt_of_lt_of_le→Bm,zero_add→Bp
set_option maxHeartbeats 16000000
set_option maxRecDepth 100000
namespace Go.Proofs.YteoffhpfcgffcaaGreatDoor
open Go.RowKit
def yT:Array Ah:=#[Aa Ab 0,Aa Ab 0,Ad none 0 0,Aa Ac 0,Aa Ab 0,Aa Ab 0,Ad none 0 0,Ad none 0 0,Ad none 0 0]
def uS (a b:Int) (pv:Ah) (root:Mv) (sv:Ah) (er:Int) (ss:List Sm) (up:List Bool) (w:Ag) (e:Ending) (w':Ag):Prop:=
 Below w.heap.size w w'∧((er≠0∧e= .returned (.tuple #[.agg yT,Aa Ab er]))∨
  (er=0∧∃A2 r U,e= .returned (.tuple #[.agg (Qm a b pv root sv (Ad U up.length up.length) (Ad A2 r.length r.length)),Aa Ab 0])∧oL ss r∧Fs w' w.heap.size A2 r∧Rd w' U 1 up.length (Cx up)))
theorem Fs.same {w w':Ag} {O:Nat} {A:Option Addr} {l:List Sm} (h:Fs w O A l) (hb:∀g,O≤g→g<w.heap.size→w'.heap[g]? =w.heap[g]?):Fs w' O A l:=by
 obtain⟨z,h1,h2,h3⟩:=h;exact⟨z,h1,h2.same fun g hg=>hb g (h2.lt g hg).1 (h2.lt g hg).2.1,fun x hx=>(h3 x hx).same hb⟩
theorem Fs.below {w w':Ag} {O:Nat} {A:Option Addr} {l:List Sm} (h:Fs w O A l) (hb:Below w.heap.size w w'):Fs w' O A l:=h.same fun g _ hg=>hb.block g hg
theorem Fs.base {w:Ag} {O O':Nat} {A:Option Addr} {l:List Sm} (h:Fs w O A l) (hO:O'≤O):Fs w O' A l:=by
 obtain⟨z,h1,h2,h3⟩:=h;exact⟨z,h1,h2.base hO,fun x hx=>(h3 x hx).base hO⟩
theorem rH (a b:Int) (pA:Option Addr) (cr:List Cr) (pn pc:Nat) (root:Mv) (A:Option Addr) (l:List Stk) (n cc:Nat) (w:Ag) (hp:Fy a b cr) (hpn:pn=cr.length) (hpr:Rd w pA 3 pn (crs cr)) (hpl:pn≤1000000) (ht:root.t≤255)
  (hn:n=l.length) (h:Cs w A l) (hl:n≤100000) (hls:∀x∈l,x.ls.length≤100000) (hqs:∀x∈l,x.c.q≤255) (hQ:Qf w) (hT:Tn w):
  Ai Tryz.prog 25 #[.agg #[Aa Ab a,Aa Ab b,Ad pA pn pc,Aa Ac root.t,Aa Ab root.x,Aa Ab root.y,Ad A n cc]] w (uS a b (Ad pA pn pc) root (Ad A n cc) (Kp a b cr root l) (Vp a b cr root l).seams (upF a b cr root).1 w):=by
 have HOF:=Ae (fun(w':Ag) (hb:Below w.heap.size w w')=>bS a b pA cr pn pc root A l n cc w' hp hpn (hpr.below hb) hpl ht hn (h.below hb) hl hls hqs (hQ.below hb) (hT.below hb));have HUP:=Ae (fun(w':Ag) (hb:Below w.heap.size w w')=>uN a b pA cr pn pc root w' hp hpn (hpr.below hb) hpl ht (hQ.below hb) (hT.below hb))
 have hup:Kp a b cr root l=0→(upF a b cr root).2=0:=fun h0=>by
  unfold Kp at h0;unfold upF
  split at h0
  ·contradiction
  ·rename_i g;rw[if_neg g]
 obtain⟨E,hE⟩:=ey (Kp a b cr root l);rw[hE]at HOF hup⊢;obtain⟨ss,hss⟩:=ey ((Vp a b cr root l).seams);rw[hss]at HOF⊢;obtain⟨⟨up,ue⟩,hu⟩:=ey (upF a b cr root);rw[hu]at HUP hup⊢;obtain⟨rt,rx,ry⟩:=root;dsimp only at HOF HUP hup ht⊢;obtain⟨nu,hnu⟩:=ey up.length;rw[hnu]at HUP;have HNU:=Ae hnu;have H:=((Bx.start w).new #[Aa Ab a,Aa Ab b,Ad pA pn pc,Aa Ac rt,Aa Ab rx,Aa Ab ry,Ad A n cc] 43 rfl).new #[Aa Ab 0,Aa Ab 0,Ad none 0 0,Aa Ac 0,Aa Ab 0,Aa Ab 0,Ad none 0 0,Ad none 0 0,Ad none 0 0] 82 (N:=w.heap.size+1) (by simp);clear hp hpn hpr hpl ht hn h hl hls hqs hQ hT hE hss hu hnu;go_enter Tryz.func25,Tryz.ntmps25;go_upto_region 1 with fail;obtain⟨N,hN⟩:=ez w.heap.size;rw[←hN]at H⊢;have HNN:=Ae hN;clear hN;obtain⟨P,hP⟩:=ey (N+1);rw[hP]at H⊢;obtain⟨W0,hW0⟩:=ez ((w.alloc (.cells #[Aa Ab a,Aa Ab b,Ad pA pn pc,Aa Ac rt,Aa Ab rx,Aa Ab ry,Ad A n cc] 43)).alloc (.cells #[Aa Ab 0,Aa Ab 0,Ad none 0 0,Aa Ac 0,Aa Ab 0,Aa Ab 0,Ad none 0 0,Ad none 0 0,Ad none 0 0] 82));rw[←hW0]at H⊢;clear hW0;clear hP;have HPW:Hid (P<W0.heap.size):=Ae (H.lt 1 rfl);have HWW:Hid (w.heap.size≤W0.heap.size):=Ae H.below.size;have hc:=fun j=>Bs W0 N j _ _ (0,0) (H.blk 0 _ _ _ rfl);have c0:W0.cell? ⟨N,0,none⟩=some (Aa Ab a):=(hc 0).trans rfl;have c1:W0.cell? ⟨N,1,none⟩=some (Aa Ab b):=(hc 1).trans rfl;have c2:W0.cell? ⟨N,2,none⟩=some (Ad pA pn pc):=(hc 2).trans rfl;have c3:W0.cell? ⟨N,3,none⟩=some (Aa Ac rt):=(hc 3).trans rfl;have c4:W0.cell? ⟨N,4,none⟩=some (Aa Ab rx):=(hc 4).trans rfl;have c5:W0.cell? ⟨N,5,none⟩=some (Aa Ab ry):=(hc 5).trans rfl;have c6:W0.cell? ⟨N,6,none⟩=some (Ad A n cc):=(hc 6).trans rfl;clear hc;go_wp2_with fail;refine(HOF.out _ H.below).mono ?_;rintro ee w1 ⟨hb,hret⟩;have H1:=H.call hb;clear c0 c1 c2 c3 c4 c5 c6 H HOF
 rcases hret with⟨h0,rfl⟩|⟨rfl,A2,r,rfl,hsm,hsa⟩
 ·have q1:(E != 0)=true:=by simpa using h0
  have hP9:=H1.blk 1 _ _ _ rfl;obtain⟨c0,c1,c2,c3,c4,c5,c6,c7,c8⟩:=Ss hP9;have z0:(w1).frozen? ⟨P,0,none⟩=false:=by simp[World.frozen?,hP9]
  have z1:(w1).frozen? ⟨P,1,none⟩=false:=by simp[World.frozen?,hP9]
  have z2:(w1).frozen? ⟨P,2,none⟩=false:=by simp[World.frozen?,hP9]
  have z3:(w1).frozen? ⟨P,3,none⟩=false:=by simp[World.frozen?,hP9]
  have z4:(w1).frozen? ⟨P,4,none⟩=false:=by simp[World.frozen?,hP9]
  have z5:(w1).frozen? ⟨P,5,none⟩=false:=by simp[World.frozen?,hP9]
  have z6:(w1).frozen? ⟨P,6,none⟩=false:=by simp[World.frozen?,hP9]
  have z7:(w1).frozen? ⟨P,7,none⟩=false:=by simp[World.frozen?,hP9]
  have z8:(w1).frozen? ⟨P,8,none⟩=false:=by simp[World.frozen?,hP9]
  clear hP9;go_wp2_with fail;have H2:=H1.setAll 1 rfl [Aa Ab 0,Aa Ab 0,Ad none 0 0,Aa Ac 0,Aa Ab 0,Aa Ab 0,Ad none 0 0,Ad none 0 0,Ad none 0 0] rfl;exact Af (Cj rfl rfl (H2.range 1 rfl) Tryz.underlying82 rfl (by kernel_rfl)) rfl ⟨H2.below,.inl ⟨h0,rfl⟩⟩
 ·have hue:=hup rfl;subst hue;have hc:=fun j=>Bs w1 N j _ _ (0,0) (H1.blk 0 _ _ _ rfl);have c0:w1.cell? ⟨N,0,none⟩=some (Aa Ab a):=(hc 0).trans rfl;have c1:w1.cell? ⟨N,1,none⟩=some (Aa Ab b):=(hc 1).trans rfl;have c2:w1.cell? ⟨N,2,none⟩=some (Ad pA pn pc):=(hc 2).trans rfl;have c3:w1.cell? ⟨N,3,none⟩=some (Aa Ac rt):=(hc 3).trans rfl;have c4:w1.cell? ⟨N,4,none⟩=some (Aa Ab rx):=(hc 4).trans rfl;have c5:w1.cell? ⟨N,5,none⟩=some (Aa Ab ry):=(hc 5).trans rfl;have HSM:=Ae hsm;have HSA:=Ae hsa;obtain⟨m,hm⟩:=ey r.length;rw[hm];have HMM:=Ae hm;clear hc hup hsm hsa hb hm;go_wp2_with fail;refine(HUP.out _ H1.below).mono ?_;rintro ee w2 ⟨hb,⟨h0,-⟩|⟨-,G,rfl,hge,hG⟩⟩
  ·exact absurd rfl h0
  have H2:=H1.call hb;have HSA2:=Ae (HSA.out.below hb);have HGB:=Ae hG;have hGl:w1.heap.size≤G:=hge;have hPl:=H1.lt 1 rfl;have hGb:=(Aq.1 hG).1;have HGP:Hid (G≠P):=Ae (by omega);clear c0 c1 c2 c3 c4 c5 hb hge hG hGl hPl hGb H1 HSA HUP;have hc:=fun j=>Bs w2 N j _ _ (0,0) (H2.blk 0 _ _ _ rfl);have d0:w2.cell? ⟨N,0,none⟩=some (Aa Ab a):=(hc 0).trans rfl;have d1:w2.cell? ⟨N,1,none⟩=some (Aa Ab b):=(hc 1).trans rfl;have d2:w2.cell? ⟨N,2,none⟩=some (Ad pA pn pc):=(hc 2).trans rfl;have d3:w2.cell? ⟨N,3,none⟩=some (Aa Ac rt):=(hc 3).trans rfl;have d4:w2.cell? ⟨N,4,none⟩=some (Aa Ab rx):=(hc 4).trans rfl;have d5:w2.cell? ⟨N,5,none⟩=some (Aa Ab ry):=(hc 5).trans rfl;have d6:w2.cell? ⟨N,6,none⟩=some (Ad A n cc):=(hc 6).trans rfl;have hP9:=H2.blk 1 _ _ _ rfl;obtain⟨c0,c1,c2,c3,c4,c5,c6,c7,c8⟩:=Ss hP9;have z0:(w2).frozen? ⟨P,0,none⟩=false:=by simp[World.frozen?,hP9]
  have z1:(w2).frozen? ⟨P,1,none⟩=false:=by simp[World.frozen?,hP9]
  have z2:(w2).frozen? ⟨P,2,none⟩=false:=by simp[World.frozen?,hP9]
  have z3:(w2).frozen? ⟨P,3,none⟩=false:=by simp[World.frozen?,hP9]
  have z4:(w2).frozen? ⟨P,4,none⟩=false:=by simp[World.frozen?,hP9]
  have z5:(w2).frozen? ⟨P,5,none⟩=false:=by simp[World.frozen?,hP9]
  have z6:(w2).frozen? ⟨P,6,none⟩=false:=by simp[World.frozen?,hP9]
  have z7:(w2).frozen? ⟨P,7,none⟩=false:=by simp[World.frozen?,hP9]
  have z8:(w2).frozen? ⟨P,8,none⟩=false:=by simp[World.frozen?,hP9]
  clear hc hP9;go_wp2_with fail;have H3:=H2.setAll 1 rfl [Aa Ab a,Aa Ab b,Ad pA pn pc,Aa Ac rt,Aa Ab rx,Aa Ab ry,Ad A n cc,Ad (some ⟨G,0,none⟩) nu nu,Ad A2 m m] rfl;refine Af (Cj rfl rfl (H3.range 1 rfl) Tryz.underlying82 rfl (by kernel_rfl)) rfl ⟨H3.below,.inr ⟨rfl,A2,r,some ⟨G,0,none⟩,?_,HSM.out,?_,?_⟩⟩
  ·rw[HMM.out,HNU.out];rfl
  ·have hso:∀g,W0.heap.size≤g→g<w2.heap.size→(w2.setCells P 0 [Aa Ab a,Aa Ab b,Ad pA pn pc,Aa Ac rt,Aa Ab rx,Aa Ab ry,Ad A n cc,Ad (some ⟨G,0,none⟩) nu nu,Ad A2 m m]).heap[g]? =w2.heap[g]? :=fun g h1 h2=>World.heap_setCells_other w2 P 0 _ h2 (by have:=HPW.out;omega);exact(HSA2.out.same hso).base HWW.out
  ·have hGr:=HGB.out;rw[HNU.out];refine Gv (n:=nu) (sz:=1) ((World.heap_setCells_other w2 P 0 [Aa Ab a,Aa Ab b,Ad pA pn pc,Aa Ac rt,Aa Ab rx,Aa Ab ry,Ad A n cc,Ad (some ⟨G,0,none⟩) nu nu,Ad A2 m m] (Aq.1 hGr).1 HGP.out).trans hGr) (by rw[←HNU.out];simp[Cx])
theorem dP {a b:Int} {x:Nat×Nat×Nat} {lo hi e:Nat} (hlo:min x.2.1 x.2.2=lo) (hhi:max x.2.1 x.2.2=hi) (he:e<3) (h:nbI a b (lo:Int) (e:Int)=((hi:Int),0)) (hb:∀j:Nat,j<e→nbI a b (lo:Int) (j:Int)≠((hi:Int),0)):He a b x=(lo,e):=by
 unfold He;rw[hlo,hhi];have:e=0∨e=1∨e=2:=by omega
 have hf:([0,1,2]:List Nat).find? (fun(e:Nat)=>decide (nbI a b (lo:Int) (e:Int)=(((hi:Nat):Int),(0:Int))))=some e:=by
  rcases this with rfl|rfl|rfl
  ·rw[List.find?_cons_of_pos (by simpa using h)]
  ·rw[List.find?_cons_of_neg (by simpa using hb 0 (by omega)),List.find?_cons_of_pos (by simpa using h)]
  ·rw[List.find?_cons_of_neg (by simpa using hb 0 (by omega)),List.find?_cons_of_neg (by simpa using hb 1 (by omega)),List.find?_cons_of_pos (by simpa using h)]
 rw[hf]
theorem Xr {a b:Int} {x:Nat×Nat×Nat} {lo hi:Nat} (hlo:min x.2.1 x.2.2=lo) (hhi:max x.2.1 x.2.2=hi) (hb:∀j:Nat,j<3→nbI a b (lo:Int) (j:Int)≠((hi:Int),0)):He a b x=(0,0):=by
 unfold He;rw[hlo,hhi]
 have hf:([0,1,2]:List Nat).find? (fun(e:Nat)=>decide (nbI a b (lo:Int) (e:Int)=(((hi:Nat):Int),(0:Int))))=none:=by
  rw[List.find?_cons_of_neg (by simpa using hb 0 (by omega)),List.find?_cons_of_neg (by simpa using hb 1 (by omega)),List.find?_cons_of_neg (by simpa using hb 2 (by omega))];rfl
 rw[hf]
theorem dQ (a b:Int) (x:Nat×Nat×Nat) (w:Ag) (hs:okS a b=true) (hQ:Qt w):
  Ai Tryz.prog 61 #[.agg #[Aa Ab a,Aa Ab b],aL x] w (Cg (.agg #[Aa Ab ((He a b x).1:Int),Aa Ac ((He a b x).2:Int)]) w):=by
 have HNB:=Ae (fun(i e:Int) (he:0≤e) (w':Ag) (hb:Below w.heap.size w w')=>Ea a b i e w' hs he (hQ.below hb));obtain⟨R,hR⟩:=ey (He a b x);rw[hR];have HR:=Ae hR;have HAT:=Ae (fun(lo hi e:Nat)=>dP (a:=a) (b:=b) (x:=x) (lo:=lo) (hi:=hi) (e:=e));have HNO:=Ae (fun(lo hi:Nat)=>Xr (a:=a) (b:=b) (x:=x) (lo:=lo) (hi:=hi));obtain⟨x0,x1,x2⟩:=x;unfold aL;dsimp only at HAT HNO⊢;have H:=(((Bx.start w).new #[Aa Ab a,Aa Ab b] 35 rfl).new #[Aa Ac x0,Aa Ab x1,Aa Ab x2] 152 (N:=w.heap.size+1) (by simp)).new #[Aa Ab 0,Aa Ac 0] 91 (N:=w.heap.size+1+1) (by simp);clear hs hQ hR;go_enter Tryz.func61,Tryz.ntmps61;go_upto_region 1 with fail;obtain⟨W,hW⟩:=ez (((w.alloc (.cells #[Aa Ab a,Aa Ab b] 35)).alloc (.cells #[Aa Ac x0,Aa Ab x1,Aa Ab x2] 152)).alloc (.cells #[Aa Ab 0,Aa Ac 0] 91));rw[←hW]at H⊢;clear hW;obtain⟨N,hN⟩:=ez w.heap.size;rw[←hN]at H⊢;have HNN:=Ae hN;clear hN;obtain⟨P,hP⟩:=ey (N+1);obtain⟨U,hU⟩:=ey (P+1);rw[hP,hU]at H⊢;clear hP hU;obtain⟨⟨c0,c1,c2⟩,-⟩:=Ci (H.blk 1 _ _ _ rfl);obtain⟨lo,hlo⟩:=ey (min x1 x2);obtain⟨hi,hhi⟩:=ey (max x1 x2);have HAT2:=Ae (fun e=>HAT.out lo hi e hlo hhi);have HNO2:=Ae (HNO.out lo hi hlo hhi);have HMN:=Ae (⟨hlo,hhi⟩:_∧_);clear hlo hhi HAT HNO;go_cut [5,6] (fun s5 s6 wx=>s5= Aa Ab (lo:Int)∧s6= Aa Ab (hi:Int)∧Hid (Bx w ([(N,#[Aa Ab a,Aa Ab b],35),(P,#[Aa Ac x0,Aa Ab x1,Aa Ab x2],152),(U,#[Aa Ab 0,Aa Ac 0],91)]) wx))
 case first=>
  obtain⟨hlo,hhi⟩:=HMN.out;have HH:=Ae H.drew;obtain⟨S,hSd⟩:∃S:Ag→Prop,S=fun W'=>W'.cell? ⟨P,1,none⟩=some (Aa Ab (x1:Int))∧W'.cell? ⟨P,2,none⟩=some (Aa Ab (x2:Int)):=⟨_,rfl⟩;have HSO:Hid (∀W',S W'→W'.cell? ⟨P,1,none⟩=some (Aa Ab (x1:Int))∧W'.cell? ⟨P,2,none⟩=some (Aa Ab (x2:Int))):=Ae fun W' h=>by subst hSd;exact h
  have hS0:S W.drew:=by subst hSd;exact⟨c1,c2⟩
  clear hSd c0 c1 c2 H;rcases Nat.lt_trichotomy x1 x2 with hrr|hrr|hrr
  ·obtain⟨rfl,rfl⟩:x1=lo∧x2=hi:=by omega
   have r1:(x1:Int)<(x2:Int):=by omega
   have r2:¬(x2:Int)<(x1:Int):=by omega
   clear hlo hhi hrr;refine Al (S:=S) (by kernel_rfl) hS0 (fun hS=>?_);refine Cf 0 ?_;refine Cf 1 ?_;refine Cf 2 ?_;refine Cf 3 ?_;refine Cf 4 ?_;refine Cf 5 ?_;refine Cf 6 ?_;refine Cf 7 ?_;refine Cf 8 ?_;refine Cf 9 ?_;refine Cf 10 ?_;refine Cf 11 ?_;refine Ak (by kernel_rfl) ?_ _;go_wp2_with fail;go_meet;exact⟨by first|rfl|exact congrArg (Value.int .i64) (by omega),by first|rfl|exact congrArg (Value.int .i64) (by omega),HH⟩
  ·subst hrr;obtain⟨rfl,rfl⟩:x1=lo∧x1=hi:=by omega
   clear hlo hhi;refine Al (S:=S) (by kernel_rfl) hS0 (fun hS=>?_);refine Cf 0 ?_;refine Cf 1 ?_;refine Cf 2 ?_;refine Cf 3 ?_;refine Cf 4 ?_;refine Cf 5 ?_;refine Cf 6 ?_;refine Cf 7 ?_;refine Cf 8 ?_;refine Cf 9 ?_;refine Cf 10 ?_;refine Cf 11 ?_;refine Ak (by kernel_rfl) ?_ _;go_wp2_with fail;go_meet;exact⟨by first|rfl|exact congrArg (Value.int .i64) (by omega),by first|rfl|exact congrArg (Value.int .i64) (by omega),HH⟩
  ·obtain⟨rfl,rfl⟩:x2=lo∧x1=hi:=by omega
   have r1:(x2:Int)<(x1:Int):=by omega
   have r2:¬(x1:Int)<(x2:Int):=by omega
   clear hlo hhi hrr;refine Al (S:=S) (by kernel_rfl) hS0 (fun hS=>?_);refine Cf 0 ?_;refine Cf 1 ?_;refine Cf 2 ?_;refine Cf 3 ?_;refine Cf 4 ?_;refine Cf 5 ?_;refine Cf 6 ?_;refine Cf 7 ?_;refine Cf 8 ?_;refine Cf 9 ?_;refine Cf 10 ?_;refine Cf 11 ?_;refine Ak (by kernel_rfl) ?_ _;go_wp2_with fail;go_meet;exact⟨by first|rfl|exact congrArg (Value.int .i64) (by omega),by first|rfl|exact congrArg (Value.int .i64) (by omega),HH⟩
 case rest=>
 obtain⟨rfl,rfl,HH⟩:=hcut;clear H c0 c1 c2;go_wp2_with fail
 go_loopw [20] (fun s20 wr=>∃e:Nat,s20= Aa Ac e∧e≤3∧Hid (Bx w ([(N,#[Aa Ab a,Aa Ab b],35),(P,#[Aa Ac x0,Aa Ab x1,Aa Ab x2],152),(U,#[Aa Ab 0,Aa Ac 0],91)]) wr)∧Hid (∀j,j<e→nbI a b (lo:Int) (j:Int)≠((hi:Int),0))) (fun s20 _=>3-(intOf s20).toNat)
 case atStart=>exact⟨0,rfl,by omega,HH,Ae fun j hj=>absurd hj (by omega)⟩
 case round=>
  obtain⟨e,rfl,he,HH,HE⟩:=hrel;by_cases h3:e<3
  ·have q1:(e:Int)<3:=by omega
   have q2:(e:Int)≤255:=by omega
   obtain⟨⟨a0,a1⟩,-⟩:=Cu (HH.out.blk 0 _ _ _ rfl);have hnb:=HNB.out (lo:Int) (e:Int) (by omega) wr HH.out.below;have hat:=HAT2.out e h3;obtain⟨⟨nn,er⟩,hz⟩:=ey (nbI a b (lo:Int) (e:Int));rw[hz]at hnb hat;have HZ:=Ae hz;have HNB2:=Ae hnb;have HAT3:=Ae hat;clear hnb hat hz;go_wp2_with fail;refine HNB2.out.mono ?_;rintro en w2 ⟨rfl,hb⟩;have H2:=HH.out.call hb;clear HNB2 a0 a1 hb HH;unfold Ug;dsimp only;have H2':=((H2.set 2 0 rfl (Aa Ab (lo:Int))).set 2 1 rfl (Aa Ac (e:Int)));by_cases h0:er=0
   ·subst h0;by_cases hn:nn=(hi:Int)
    ·subst hn;have hF:=HAT3.out rfl (HE.out);have HF:=Ae (show R=(lo,e)by rw[←HR.out,hF]);obtain⟨⟨u0,u1⟩,u2,u3⟩:=Cu (H2.blk 2 _ _ _ rfl);clear HAT3 hF HZ;go_wp2_with fail;rw[HF.out];exact Af (Dg rfl rfl (H2'.range 2 rfl) Tryz.underlying91 rfl (by kernel_rfl)) rfl ⟨rfl,H2'.below⟩
    ·have q5:(nn==(hi:Int))=false:=by simpa using hn
     have HK:Hid (∀j,j<e+1→nbI a b (lo:Int) (j:Int)≠((hi:Int),0)):=Ae fun j hj=>by
      by_cases e1:j=e
      ·subst e1;rw[HZ.out];intro hc;exact hn (congrArg Prod.fst hc)
      ·exact HE.out j (by omega)
     have HH2:=Ae H2;clear HAT3 HZ H2 H2' hn;go_wp2_with fail;exact⟨⟨e+1,by go_num,by omega,HH2,HK⟩,by simp[intOf];omega⟩
   ·have q5:(er==0)=false:=by simpa using h0
    have HK:Hid (∀j,j<e+1→nbI a b (lo:Int) (j:Int)≠((hi:Int),0)):=Ae fun j hj=>by
     by_cases e1:j=e
     ·subst e1;rw[HZ.out];intro hc;exact h0 (congrArg Prod.snd hc)
     ·exact HE.out j (by omega)
    have HH2:=Ae H2;clear HAT3 HZ H2 H2' h0;go_wp2_with fail;exact⟨⟨e+1,by go_num,by omega,HH2,HK⟩,by simp[intOf];omega⟩
  ·obtain rfl:e=3:=by omega
   have HF:=Ae (show R=(0,0)by rw[←HR.out,HNO2.out HE.out]);have H2:=HH.out;have H2':=((H2.set 2 0 rfl (Aa Ab 0)).set 2 1 rfl (Aa Ac 0));obtain⟨⟨u0,u1⟩,u2,u3⟩:=Cu (H2.blk 2 _ _ _ rfl);clear h3;go_wp2_with fail;rw[HF.out];exact Af (Dg rfl rfl (H2'.range 2 rfl) Tryz.underlying91 rfl (by kernel_rfl)) rfl ⟨rfl,H2'.below⟩
theorem oZ (c e:Nat) (k kk:Int) (Wb Kb M:Nat) (mp:List ((Int×Int)×Ah)) (v:Bool) (w:Ag) (hW:w.heap[Wb]? =some (Obj.cells #[.bool v] 4 (0,0))) (hK:w.cell? ⟨Kb,0,none⟩=some (.map (some M))) (hM:Fa unK w M mp) (hg:(Ht ((c:Int),(e:Int)) mp).getD (Aa Ac 0)= Aa Ac kk):
  Ai Tryz.prog 28 #[.agg #[Aa Ab (c:Int),Aa Ac (e:Int)],Aa Ac k,.pointer (some ⟨Wb,0,none⟩),.pointer (some ⟨Kb,0,none⟩)] w
   fun en w'=>en= .returned (.tuple #[])∧Below Wb w w'∧w'.heap[Wb]? =some (Obj.cells #[.bool (v||(decide (kk≠3)&&decide (kk≠k)))] 4 (0,0))∧w.heap.size≤w'.heap.size∧∀g,g<w.heap.size→g≠Wb→w'.heap[g]? =w.heap[g]? :=by
 have hWl:=(Aq.1 hW).1;have H:=(Bx.start w).new #[Aa Ab (c:Int),Aa Ac (e:Int)] 91 rfl;have hW1:=kept H.below hW hWl;have hK1:=Ce H.below hK;have hM1:=hM.below H.below hM.lt;obtain⟨a0,a1⟩:=Su hW1;obtain⟨R,hR⟩:=ey ((v||(decide (kk≠3)&&decide (kk≠k))));rw[hR];have HR:=Ae hR;have hlk:=fun W' (h:Fa unK W' M mp)=>Nv Ly Tryz.underlying86 (et:=87) (z:= Aa Ac 0) (fun w=>by kernel_rfl) h ((c:Int),(e:Int)) false;rw[hg]at hlk;unfold unK at hlk;simp only[Bool.false_eq_true,if_false]at hlk;have hl1:=hlk _ hM1
 have HFIN:Hid (∀W,W=(w.alloc (.cells #[Aa Ab (c:Int),Aa Ac (e:Int)] 91)).setCell ⟨Wb,0,none⟩ (.bool R)→Below Wb w W∧W.heap[Wb]? =some (Obj.cells #[.bool R] 4 (0,0))∧w.heap.size≤W.heap.size∧∀g,g<w.heap.size→g≠Wb→W.heap[g]? =w.heap[g]?):=Ae fun W h=>by
  subst h;exact⟨(((Below.refl Wb w).alloc (by omega) _)).setCell (p:=⟨Wb,0,none⟩) (Aj _) _,by rw[Ek _ hW1];rfl,by simp,fun g hg hgW=>(Below.heap_setCell _ ⟨Wb,0,none⟩ _ g (by show g≠Wb;exact hgW)).trans (Below.heap_alloc w _ g hg)⟩
 obtain⟨⟨b0,b1⟩,-⟩:=Cu (H.blk 0 _ _ _ rfl);clear hW hK hM hg hR hlk hW1 hM1 hWl;go_enter Tryz.func28,Tryz.ntmps28;go_upto_region 1 with fail;obtain⟨N,hN⟩:=ez w.heap.size;rw[←hN]at H b0 b1⊢;clear hN;obtain⟨W0,hW0⟩:=ez (w.alloc (.cells #[Aa Ab (c:Int),Aa Ac (e:Int)] 91));rw[←hW0]at H hl1 HFIN a0 a1 hK1 b0 b1⊢;clear hW0;clear H
 cases v with
 |true=>
  have hR:R=true:=by rw[←HR.out];rfl
  subst hR;go_wp2_with fail
  go_end0
  exact⟨rfl,HFIN.out _ rfl⟩
 |false=>
  by_cases h3:kk=3
  ·subst h3;have hR:R=false:=by rw[←HR.out];rfl
   subst hR;go_wp2_with fail
   go_end0
   exact⟨rfl,HFIN.out _ rfl⟩
  ·have q1:(kk != 3)=true:=by simpa using h3
   by_cases h4:kk=k
   ·subst h4;have hR:R=false:=by rw[←HR.out];simp
    subst hR;go_wp2_with fail
    go_end0
    exact⟨rfl,HFIN.out _ rfl⟩
   ·have q2:(kk != k)=true:=by simpa using h4
    have hR:R=true:=by rw[←HR.out];simp[h3,h4]
    subst hR;go_wp2_with fail
    go_end0
    exact⟨rfl,HFIN.out _ rfl⟩
theorem Ai6 {w:Ag} {O:Nat} {A:Option Addr} {l:List Sm} (h:Fs w O A l) (i:Nat) (hi:i<l.length):
  ∃b o A1 A2 A3,A=some ⟨b,o,none⟩∧(w.cell? ⟨b,o+i*9,none⟩=some (Aa Ab l[i].a.x)∧w.cell? ⟨b,o+i*9+1,none⟩=some (Aa Ab l[i].a.y)∧w.cell? ⟨b,o+i*9+2,none⟩=some (Aa Ac l[i].a.q)∧w.cell? ⟨b,o+i*9+3,none⟩=some (Aa Ab l[i].b.x)∧w.cell? ⟨b,o+i*9+4,none⟩=some (Aa Ab l[i].b.y)∧w.cell? ⟨b,o+i*9+5,none⟩=some (Aa Ac l[i].b.q)∧
   w.cell? ⟨b,o+i*9+6,none⟩=some (Ad A1 l[i].ps.length l[i].ps.length)∧w.cell? ⟨b,o+i*9+7,none⟩=some (Ad A2 l[i].ls.length l[i].ls.length)∧w.cell? ⟨b,o+i*9+8,none⟩=some (Ad A3 l[i].es.length l[i].es.length))∧Hw w O l[i] A1 A2 A3:=by
 obtain⟨z,rfl,h2,h3⟩:=h;have hiz:i<z.length:=by simpa using hi
 have hr:=h2.rd;obtain⟨b,o,e,-,hc⟩:=hr.2 (by omega);have hat:∀f,f<9→(z.flatMap smC)[i*9+f]? =(smC z[i])[f]? :=fun f hf=>Dc smC 9 Jt _ i f hiz hf;have hrow:=h3 z[i] (Au hiz);simp only[List.getElem_map];exact⟨b,o,z[i].2.1,z[i].2.2.1,z[i].2.2.2,e,⟨hc (i*9+0) _ ((hat 0 (by omega)).trans rfl),hc (i*9+1) _ ((hat 1 (by omega)).trans rfl),hc (i*9+2) _ ((hat 2 (by omega)).trans rfl),hc (i*9+3) _ ((hat 3 (by omega)).trans rfl),hc (i*9+4) _ ((hat 4 (by omega)).trans rfl),hc (i*9+5) _ ((hat 5 (by omega)).trans rfl),hc (i*9+6) _ ((hat 6 (by omega)).trans rfl),hc (i*9+7) _ ((hat 7 (by omega)).trans rfl),hc (i*9+8) _ ((hat 8 (by omega)).trans rfl)⟩,hrow⟩
theorem Xs (a b:Int) (pv:Ah) (root:Mv) (A:Option Addr) (l:List Stk) (n cc:Nat) (uv:Ah) (O:Nat) (A2:Option Addr) (r:List Sm) (m:Nat) (w:Ag) (hn:n=l.length) (h:Cs w A l) (hl:n≤100000) (hls:∀x∈l,x.ls.length≤100000)
  (hm:m=r.length) (hml:m≤1000000) (hr:Fs w O A2 r) (hrl:∀s∈r,s.ps.length≤1000000∧s.ls.length≤1000000):
  Ai Tryz.prog 26 #[.agg (Qm a b pv root (Ad A n cc) uv (Ad A2 m m))] w (Cg (Aa Ab (if r.any (Fk l)then 12 else 0)) w):=by
 have HS:=Ae (fun(w':Ag) (hb:Below w.heap.size w w')=>hr.below hb);have HC:=Ae (fun(s:Sm) (hs:s∈r) (w':Ag) (hb:Below w.heap.size w w') (A1 A2 A3:Option Addr) (hrw:Hw w' O s A1 A2 A3)=>Zp s A1 A2 A3 s.ps.length s.ps.length s.ls.length s.ls.length s.es.length s.es.length A l n cc w' hn (h.below hb) hl hls rfl hrw.1.2.rd (hrl s hs).1 rfl hrw.2.1.2.rd (hrl s hs).2);have HM:=Ae hm;obtain⟨R,hR⟩:∃z:Int,(if r.any (Fk l)then 12 else 0)=z:=⟨_,rfl⟩;rw[hR];have HR:=Ae hR;clear hR;obtain⟨rt,rx,ry⟩:=root;unfold Qm;dsimp only;have H:=(Bx.start w).new #[Aa Ab a,Aa Ab b,pv,Aa Ac rt,Aa Ab rx,Aa Ab ry,Ad A n cc,uv,Ad A2 m m] 82 rfl;clear hn h hls hm hr hrl;go_enter Tryz.func26,Tryz.ntmps26;go_upto_region 1 with fail;obtain⟨N,hN⟩:=ez w.heap.size;rw[←hN]at H⊢;have HNN:=Ae hN;clear hN;obtain⟨W,hW⟩:=ez (w.alloc (.cells #[Aa Ab a,Aa Ab b,pv,Aa Ac rt,Aa Ab rx,Aa Ab ry,Ad A n cc,uv,Ad A2 m m] 82));rw[←hW]at H⊢;clear hW;obtain⟨-,-,-,-,-,-,-,-,c8⟩:=Ss (H.blk 0 _ _ _ rfl);go_wp2_with fail;clear c8;have H:=Ae H
 go_loopw [8] (fun s8 wr=>∃i:Nat,i≤m∧s8= Aa Ab i∧Hid (Bx w [(N,#[Aa Ab a,Aa Ab b,pv,Aa Ac rt,Aa Ab rx,Aa Ab ry,Ad A n cc,uv,Ad A2 m m],82)] wr)∧Hid (∀j (hj:j<r.length),j<i→Fk l r[j]=false)) (fun s8 _=>m-(intOf s8).toNat)
 case atStart=>exact⟨0,by omega,rfl,H,Ae fun j _ hj=>absurd hj (by omega)⟩
 case round=>
  obtain⟨i,hi,rfl,HH,HF⟩:=hrel;by_cases hlt:i<m
  ·have hil:i<r.length:=by have:=HM.out;omega
   have q0:(i:Int)<(m:Int):=by omega
   obtain⟨sb,so,B1,B2,B3,hA2,⟨d0,d1,d2,d3,d4,d5,d6,d7,d8⟩,hrw⟩:=Ai6 (HS.out _ HH.out.below) i hil;have hm1:=Au hil;obtain⟨s,hs⟩:=ey (r[i]);rw[hs]at d0 d1 d2 d3 d4 d5 d6 d7 d8 hrw hm1;have HCC:=Ae (fun(w':Ag) (hb:Below wr.heap.size wr w')=>HC.out s hm1 w' (HH.out.below.trans (hb.mono HH.out.below.size)) B1 B2 B3 (hrw.same fun g _ hg=>hb.block g hg))
   have HNX:=Ae (fun(hc:Fk l s=false) (j:Nat) (hj:j<r.length) (hji:j<i+1)=>show Fk l r[j]=false by
    by_cases hjk:j=i
    ·subst hjk;rw[hs];exact hc
    ·exact HF.out j hj (by omega))
   have HYS:=Ae (fun(hc:Fk l s=true)=>show R=12 by
    rw[←HR.out,if_pos (List.any_eq_true.2 ⟨s,hm1,hc⟩)])
   obtain⟨x,hx⟩:=ey (Fk l s);rw[hx]at HCC HNX HYS;obtain⟨⟨s0,s1,s2⟩,⟨t0,t1,t2⟩,ps,ls,es⟩:=s;dsimp only at d0 d1 d2 d3 d4 d5 d6 d7 d8 HCC;unfold Sm.cells at HCC;dsimp only at HCC;obtain⟨np,hnp⟩:=ey ps.length;obtain⟨nl,hnl⟩:=ey ls.length;obtain⟨ne,hne⟩:=ey es.length;rw[hnp]at d6 HCC;rw[hnl]at d7 HCC;rw[hne]at d8 HCC;obtain⟨C,hC⟩:=ey wr.heap.size;have H2:=HH.out.new #[Aa Ab s0,Aa Ab s1,Aa Ac s2,Aa Ab t0,Aa Ab t1,Aa Ac t2,Ad B1 np np,Ad B2 nl nl,Ad B3 ne ne] 149 hC;have hbq:=Ae ((Below.refl wr.heap.size wr).alloc (Aj _) (.cells #[Aa Ab s0,Aa Ab s1,Aa Ac s2,Aa Ab t0,Aa Ab t1,Aa Ac t2,Ad B1 np np,Ad B2 nl nl,Ad B3 ne ne] 149));subst hA2;clear hs hrw hm1 hx hnp hnl hne;go_upto_region 4 with fail
   try rw[hC]
   obtain⟨W2,hW2⟩:=ez (wr.alloc (.cells #[Aa Ab s0,Aa Ab s1,Aa Ac s2,Aa Ab t0,Aa Ab t1,Aa Ac t2,Ad B1 np np,Ad B2 nl nl,Ad B3 ne ne] 149));rw[←hW2]at H2 hbq⊢;clear hW2;clear d0 d1 d2 d3 d4 d5 d6 d7 d8 hC;have hc6:W2.cell? ⟨N,6,none⟩=some (Ad A n cc):=(Bs W2 N 6 _ _ (0,0) (H2.blk 0 _ _ _ rfl)).trans rfl;obtain⟨e0,e1,e2,e3,e4,e5,e6,e7,e8⟩:=Ss (H2.blk 1 _ _ _ rfl);go_wp2_with fail;refine(HCC.out _ hbq.out).mono ?_;rintro ee w3 ⟨v,rfl,hv,hb⟩;have H3:=Ae ((H2.call hb).upto 1);clear e0 e1 e2 e3 e4 e5 e6 e7 e8 hc6 hb hbq HCC H2 HH
   cases x with
   |true=>
    have q1:(v != 0)=true:=by simpa using hv
    have HRR:=Ae (HYS.out rfl);clear hv;go_wp2_with fail;go_ret;exact⟨by have h:=HRR.out;subst h;rfl,H3.out.below⟩
   |false=>
    have q1:(v != 0)=false:=by simpa using hv
    have HNN2:=Ae (HNX.out rfl);clear HNX HYS hv;go_wp2_with fail;exact⟨⟨i+1,by omega,by go_num,H3,HNN2⟩,by simp[intOf];omega⟩
  ·have q0:¬(i:Int)<(m:Int):=by omega
   have hR:R=0:=by
    rw[←HR.out,if_neg];intro hc;obtain⟨s,hs,hcs⟩:=List.any_eq_true.1 hc;obtain⟨j,hj,rfl⟩:=Ay.1 hs;rw[HF.out j hj (by have:=HM.out;omega)]at hcs
    cases hcs
   have HRR:=Ae hR;clear hR;go_wp2_with fail;go_ret;exact⟨by have h:=HRR.out;subst h;rfl,HH.out.below⟩
theorem Ac4 {w:Ag} {A:Option Addr} {z:List SmZ} (h:Rd w A 9 z.length (z.flatMap smC)) (i:Nat) (hi:i<z.length):
  ∃b o,A=some ⟨b,o,none⟩∧(w.cell? ⟨b,o+i*9,none⟩=some (Aa Ab z[i].1.a.x)∧w.cell? ⟨b,o+i*9+1,none⟩=some (Aa Ab z[i].1.a.y)∧w.cell? ⟨b,o+i*9+2,none⟩=some (Aa Ac z[i].1.a.q)∧w.cell? ⟨b,o+i*9+3,none⟩=some (Aa Ab z[i].1.b.x)∧w.cell? ⟨b,o+i*9+4,none⟩=some (Aa Ab z[i].1.b.y)∧w.cell? ⟨b,o+i*9+5,none⟩=some (Aa Ac z[i].1.b.q)∧
   w.cell? ⟨b,o+i*9+6,none⟩=some (.slice z[i].2.1 z[i].1.ps.length z[i].1.ps.length)∧w.cell? ⟨b,o+i*9+7,none⟩=some (.slice z[i].2.2.1 z[i].1.ls.length z[i].1.ls.length)∧w.cell? ⟨b,o+i*9+8,none⟩=some (.slice z[i].2.2.2 z[i].1.es.length z[i].1.es.length)):=by
 obtain⟨b,o,e,-,hc⟩:=h.2 (by omega);have hat:∀f,f<9→(z.flatMap smC)[i*9+f]? =(smC z[i])[f]? :=fun f hf=>Dc smC 9 Jt _ i f hi hf;exact⟨b,o,e,⟨hc (i*9+0) _ ((hat 0 (by omega)).trans rfl),hc (i*9+1) _ ((hat 1 (by omega)).trans rfl),hc (i*9+2) _ ((hat 2 (by omega)).trans rfl),hc (i*9+3) _ ((hat 3 (by omega)).trans rfl),hc (i*9+4) _ ((hat 4 (by omega)).trans rfl),hc (i*9+5) _ ((hat 5 (by omega)).trans rfl),hc (i*9+6) _ ((hat 6 (by omega)).trans rfl),hc (i*9+7) _ ((hat 7 (by omega)).trans rfl),hc (i*9+8) _ ((hat 8 (by omega)).trans rfl)⟩⟩
structure yN (w:Ag) (U:Option Addr) (nu:Nat) (up:List Bool) (Kb M:Nat) (mp:List ((Int×Int)×Ah)) (A2:Option Addr) (z:List SmZ):Prop where
 seams:Rd w A2 9 z.length (z.flatMap smC)
 rows:∀x∈z,Rd w x.2.2.1 3 x.1.ls.length (Gy x.1.ls)
 up:Rd w U 1 nu (Cx up)
 qt:Qt w
 map:Fa unK w M mp
 kb:w.cell? ⟨Kb,0,none⟩=some (.map (some M))
theorem lR (a b:Int) (pv:Ah) (root:Mv) (sv:Ah) (U:Option Addr) (nu cu:Nat) (up:List Bool) (A2:Option Addr) (z:List SmZ) (m Wb Kb M:Nat) (mp:List ((Int×Int)×Ah)) (cr:List Cr) (w:Ag) (hs:okS a b=true)
  (hW:w.heap[Wb]? =some (Obj.cells #[.bool false] 4 (0,0))) (hm:m=z.length) (hml:m≤1000000) (hnu:nu=up.length) (HL:∀w',Below Wb w w'→yN w' U nu up Kb M mp A2 z)
  (hkk:∀c e:Nat,(Ht ((c:Int),(e:Int)) mp).getD (Aa Ac 0)= Aa Ac (Fw cr c e)) (hz:∀x∈z,x.1.ls.length≤1000000∧∀y∈x.1.ls,y.2.2<nu):
  Ai Tryz.prog 27 #[.agg (Qm a b pv root sv (Ad U nu cu) (Ad A2 m m)),.func (.func 28) #[] #[.pointer (some ⟨Wb,0,none⟩),.pointer (some ⟨Kb,0,none⟩)]] w
   fun en w'=>en= .returned (.tuple #[])∧Below Wb w w'∧w'.heap[Wb]? =some (Obj.cells #[.bool (z.any fun x=>x.1.ls.any (Ed a b cr up))] 4 (0,0)):=by
 have HLM:=Ae HL;have HM:=Ae hm;have HZ:=Ae hz;have HKK:=Ae hkk;have HS:=Ae hs;have HNU:=Ae hnu;have hWl:=(Aq.1 hW).1;obtain⟨rt,rx,ry⟩:=root;have HKI:=Ae (fun(x:Nat×Nat×Nat) (w':Ag) (h:Rd w' U 1 nu (Cx up)) (hx:x.2.2<nu)=>qU a b pv ⟨rt,rx,ry⟩ sv (Ad A2 m m) U up nu cu x w' hnu h hx);unfold Qm at HKI⊢;dsimp only at HKI⊢;obtain⟨N,hN⟩:=ey w.heap.size;obtain⟨W,hWd⟩:=ey (w.alloc (.cells #[Aa Ab a,Aa Ab b,pv,Aa Ac rt,Aa Ab rx,Aa Ab ry,sv,Ad U nu cu,Ad A2 m m] 82));have hNb:W.heap[N]? =some (.cells #[Aa Ab a,Aa Ab b,pv,Aa Ac rt,Aa Ab rx,Aa Ab ry,sv,Ad U nu cu,Ad A2 m m] 82 (0,0)):=by rw[←hWd,←hN];exact Bt w _
 have hbW:Below Wb w W:=by rw[←hWd];exact(Below.refl Wb w).alloc (by omega) _
 have hWW:W.heap[Wb]? =some (Obj.cells #[.bool ((z.take 0).any fun x=>x.1.ls.any (Ed a b cr up))] 4 (0,0)):=by rw[←hWd];exact(Below.heap_alloc w _ Wb hWl).trans hW
 have hNW:N≠Wb:=by omega
 have HI0:Hid (Below Wb w W∧W.heap[N]? =some (.cells #[Aa Ab a,Aa Ab b,pv,Aa Ac rt,Aa Ab rx,Aa Ab ry,sv,Ad U nu cu,Ad A2 m m] 82 (0,0))∧W.heap[Wb]? =some (Obj.cells #[.bool ((z.take 0).any fun x=>x.1.ls.any (Ed a b cr up))] 4 (0,0))):=Ae ⟨hbW,hNb,hWW⟩;clear HL hm hz hkk hs hnu hW hWl;go_enter Tryz.func27,Tryz.ntmps27;go_upto_region 1 with fail
 try rw[hN]
 try rw[hWd]
 obtain⟨-,-,-,-,-,-,-,-,c8⟩:=Ss hNb;clear hN hWd hNb hbW hWW;go_wp2_with fail;clear c8
 go_loopw [11] (fun s11 wr=>∃i:Nat,i≤m∧s11= Aa Ab i∧Hid (Below Wb w wr∧wr.heap[N]? =some (.cells #[Aa Ab a,Aa Ab b,pv,Aa Ac rt,Aa Ab rx,Aa Ab ry,sv,Ad U nu cu,Ad A2 m m] 82 (0,0))∧wr.heap[Wb]? =some (Obj.cells #[.bool ((z.take i).any fun x=>x.1.ls.any (Ed a b cr up))] 4 (0,0)))) (fun s11 _=>m-(intOf s11).toNat)
 case atStart=>exact⟨0,by omega,rfl,HI0⟩
 case round=>
  obtain⟨i,hi,rfl,HI⟩:=hrel;clear HI0;by_cases hlt:i<m
  ·have hil:i<z.length:=by have:=HM.out;omega
   have q0:(i:Int)<(m:Int):=by omega
   have hlm:=HLM.out wr HI.out.1;obtain⟨sb,so,hA2,d0,d1,d2,d3,d4,d5,d6,d7,d8⟩:=Ac4 hlm.seams i hil;have hzm:=HZ.out _ (Au hil)
   have htk:(z.take (i+1)).any (fun x=>x.1.ls.any (Ed a b cr up))=((z.take i).any (fun x=>x.1.ls.any (Ed a b cr up))||z[i].1.ls.any (Ed a b cr up)):=by
    rw[Ax hil,List.any_append];simp
   have hrw:=fun w' (hb:Below Wb w w')=>(HLM.out w' hb).rows _ (Au hil);obtain⟨x,hx⟩:=ey (z[i]);rw[hx]at d0 d1 d2 d3 d4 d5 d6 d7 d8 hzm htk hrw;obtain⟨⟨⟨s0,s1,s2⟩,⟨t0,t1,t2⟩,ps,ls,es⟩,B1,B2,B3⟩:=x;dsimp only at d0 d1 d2 d3 d4 d5 d6 d7 d8 hzm htk hrw;obtain⟨np,hnp⟩:=ey ps.length;obtain⟨nl,hnl⟩:=ey ls.length;obtain⟨ne,hne⟩:=ey es.length;rw[hnp]at d6;rw[hnl]at d7 hzm hrw;rw[hne]at d8;have HNL:=Ae hnl;have HZM:=Ae hzm;have HTK:=Ae htk;have HRW:=Ae hrw;have hnl6:=hzm.1;obtain⟨C,hC⟩:=ey wr.heap.size;have hbC:=Bt wr (.cells #[Aa Ab s0,Aa Ab s1,Aa Ac s2,Aa Ab t0,Aa Ab t1,Aa Ac t2,Ad B1 np np,Ad B2 nl nl,Ad B3 ne ne] 149);have hNl:=(Aq.1 HI.out.2.1).1;have hWl:=(Aq.1 HI.out.2.2).1
   have HJ0:Hid (Below Wb w (wr.alloc (.cells #[Aa Ab s0,Aa Ab s1,Aa Ac s2,Aa Ab t0,Aa Ab t1,Aa Ac t2,Ad B1 np np,Ad B2 nl nl,Ad B3 ne ne] 149))∧(wr.alloc (.cells #[Aa Ab s0,Aa Ab s1,Aa Ac s2,Aa Ab t0,Aa Ab t1,Aa Ac t2,Ad B1 np np,Ad B2 nl nl,Ad B3 ne ne] 149)).heap[N]? =some (.cells #[Aa Ab a,Aa Ab b,pv,Aa Ac rt,Aa Ab rx,Aa Ab ry,sv,Ad U nu cu,Ad A2 m m] 82 (0,0))∧
     (wr.alloc (.cells #[Aa Ab s0,Aa Ab s1,Aa Ac s2,Aa Ab t0,Aa Ab t1,Aa Ac t2,Ad B1 np np,Ad B2 nl nl,Ad B3 ne ne] 149)).heap[Wb]? =some (Obj.cells #[.bool ((z.take i).any (fun x=>x.1.ls.any (Ed a b cr up))||(ls.take 0).any (Ed a b cr up))] 4 (0,0))):=
    Ae ⟨HI.out.1.alloc (by omega) _,(Below.heap_alloc wr _ N hNl).trans HI.out.2.1,by rw[List.take_zero,List.any_nil,Bool.or_false];exact(Below.heap_alloc wr _ Wb hWl).trans HI.out.2.2⟩
   rw[hC]at hbC;subst hA2;clear hlm hzm htk hrw hx hnp hnl hne;go_upto_region 4 with fail
   try rw[hC]
   obtain⟨W4,hW4⟩:=ez (wr.alloc (.cells #[Aa Ab s0,Aa Ab s1,Aa Ac s2,Aa Ab t0,Aa Ab t1,Aa Ac t2,Ad B1 np np,Ad B2 nl nl,Ad B3 ne ne] 149));rw[←hW4]at hbC HJ0⊢;clear hW4;clear d0 d1 d2 d3 d4 d5 d6 d7 d8 hC hNl hWl HI;obtain⟨-,-,-,-,-,-,-,e7,-⟩:=Ss hbC;go_wp2_with fail;clear e7 hbC;obtain⟨WX,rfl⟩:=ez wr
   go_loopw [18] (fun s18 wr=>∃j:Nat,j≤nl∧s18= Aa Ab j∧Hid (Below Wb w wr∧wr.heap[N]? =some (.cells #[Aa Ab a,Aa Ab b,pv,Aa Ac rt,Aa Ab rx,Aa Ab ry,sv,Ad U nu cu,Ad (some ⟨sb,so,none⟩) m m] 82 (0,0))∧wr.heap[Wb]? =some (Obj.cells #[.bool ((z.take i).any (fun x=>x.1.ls.any (Ed a b cr up))||(ls.take j).any (Ed a b cr up))] 4 (0,0)))) (fun s18 _=>nl-(intOf s18).toNat)
   case atStart=>exact⟨0,by omega,rfl,HJ0⟩
   case round=>
    obtain⟨j,hj,rfl,HJ⟩:=hrel;clear HJ0;by_cases hlt2:j<nl
    ·have hjl:j<ls.length:=by have:=HNL.out;omega
     have q1:(j:Int)<(nl:Int):=by omega
     obtain⟨lb,lo,hB2,hlbl,r0,r1,r2⟩:=Yl (HRW.out wr HJ.out.1) j hjl
     have hjt:(ls.take (j+1)).any (Ed a b cr up)=((ls.take j).any (Ed a b cr up)||Ed a b cr up ls[j]):=by
      rw[Ax hjl,List.any_append];simp
     have hyn:=HZM.out.2 _ (Au hjl);obtain⟨y,hy⟩:=ey (ls[j]);rw[hy]at r0 r1 r2 hjt hyn;have hcre:=fun w' hQ=>dQ a b y w' HS.out hQ;have hkin:=fun w' h=>HKI.out y w' h hyn;unfold Ed at hjt;obtain⟨⟨cc,ce⟩,hcc⟩:=ey (He a b y);rw[hcc]at hcre hjt;obtain⟨kl,hkl⟩:=ey (aD up y);rw[hkl]at hkin hjt;obtain⟨y0,y1,y2⟩:=y;unfold aL at hcre hkin;dsimp only at r0 r1 r2 hjt hyn hcre hkin;obtain⟨v,hv⟩:∃x,((z.take i).any (fun x=>x.1.ls.any (Ed a b cr up))||(ls.take j).any (Ed a b cr up))=x:=⟨_,rfl⟩
     have hstep:((z.take i).any (fun x=>x.1.ls.any (Ed a b cr up))||(ls.take (j+1)).any (Ed a b cr up))=(v||(decide (Fw cr cc ce≠3)&&decide (Fw cr cc ce≠kl))):=by
      unfold Ed at hv⊢;rw[hjt,←hv,Bool.or_assoc]
     rw[hv]at HJ;have HST:=Ae hstep;have HCR:=Ae hcre;have HKN:=Ae hkin;obtain⟨D,hD⟩:=ey wr.heap.size;have hbD:=Bt wr (.cells #[Aa Ac y0,Aa Ab y1,Aa Ab y2] 152);rw[hD]at hbD;have hNl:=(Aq.1 HJ.out.2.1).1;have hWl:=(Aq.1 HJ.out.2.2).1
     have HJ1:Hid (Below Wb w (wr.alloc (.cells #[Aa Ac y0,Aa Ab y1,Aa Ab y2] 152))∧(wr.alloc (.cells #[Aa Ac y0,Aa Ab y1,Aa Ab y2] 152)).heap[N]? =some (.cells #[Aa Ab a,Aa Ab b,pv,Aa Ac rt,Aa Ab rx,Aa Ab ry,sv,Ad U nu cu,Ad (some ⟨sb,so,none⟩) m m] 82 (0,0))∧(wr.alloc (.cells #[Aa Ac y0,Aa Ab y1,Aa Ab y2] 152)).heap[Wb]? =some (Obj.cells #[.bool v] 4 (0,0))):=
      Ae ⟨HJ.out.1.alloc (by omega) _,(Below.heap_alloc wr _ N hNl).trans HJ.out.2.1,(Below.heap_alloc wr _ Wb hWl).trans HJ.out.2.2⟩
     have hDW:D≠Wb:=by omega
     have hDN:D≠N:=by omega
     subst hB2;clear hjt hy hcc hkl hv hstep hcre hkin HJ hlbl hyn;go_upto_region 7 with fail
     try rw[hD]
     obtain⟨W7,hW7⟩:=ez (wr.alloc (.cells #[Aa Ac y0,Aa Ab y1,Aa Ab y2] 152));rw[←hW7]at hbD HJ1⊢;clear hW7;clear r0 r1 r2 hD hNl hWl;obtain⟨c0,c1,c2,c3,c4,c5,c6,c7,c8⟩:=Ss HJ1.out.2.1;obtain⟨⟨g0,g1,g2⟩,-⟩:=Ci hbD
     obtain⟨S,hSd⟩:∃S:Ag→Prop,S=fun W'=>(W'.cell? ⟨N,0,none⟩=some (Aa Ab a)∧W'.cell? ⟨N,1,none⟩=some (Aa Ab b)∧W'.cell? ⟨N,2,none⟩=some pv∧W'.cell? ⟨N,3,none⟩=some (Aa Ac rt)∧W'.cell? ⟨N,4,none⟩=some (Aa Ab rx)∧W'.cell? ⟨N,5,none⟩=some (Aa Ab ry)∧W'.cell? ⟨N,6,none⟩=some sv∧W'.cell? ⟨N,7,none⟩=some (Ad U nu cu)∧W'.cell? ⟨N,8,none⟩=some (Ad (some ⟨sb,so,none⟩) m m))∧
      W'.cell? ⟨D,0,none⟩=some (Aa Ac y0)∧W'.cell? ⟨D,1,none⟩=some (Aa Ab y1)∧W'.cell? ⟨D,2,none⟩=some (Aa Ab y2):=⟨_,rfl⟩
     have HSO:Hid (∀W',S W'→(W'.cell? ⟨N,0,none⟩=some (Aa Ab a)∧W'.cell? ⟨N,1,none⟩=some (Aa Ab b)∧W'.cell? ⟨N,2,none⟩=some pv∧W'.cell? ⟨N,3,none⟩=some (Aa Ac rt)∧W'.cell? ⟨N,4,none⟩=some (Aa Ab rx)∧W'.cell? ⟨N,5,none⟩=some (Aa Ab ry)∧W'.cell? ⟨N,6,none⟩=some sv∧W'.cell? ⟨N,7,none⟩=some (Ad U nu cu)∧W'.cell? ⟨N,8,none⟩=some (Ad (some ⟨sb,so,none⟩) m m))∧
      W'.cell? ⟨D,0,none⟩=some (Aa Ac y0)∧W'.cell? ⟨D,1,none⟩=some (Aa Ab y1)∧W'.cell? ⟨D,2,none⟩=some (Aa Ab y2)):=Ae fun W' h=>by subst hSd;exact h
     have HSA:Hid (∀W',W'.heap[N]? =W7.heap[N]? →W'.heap[D]? =W7.heap[D]? →S W'):=Ae fun W' h h'=>by
      have hn:∀f u,W7.cell? ⟨N,f,none⟩=some u→W'.cell? ⟨N,f,none⟩=some u:=fun f u hu=>by
       unfold World.cell? at hu⊢;rw[h];exact hu
      have hd:∀f u,W7.cell? ⟨D,f,none⟩=some u→W'.cell? ⟨D,f,none⟩=some u:=fun f u hu=>by
       unfold World.cell? at hu⊢;rw[h'];exact hu
      subst hSd;exact⟨⟨hn _ _ c0,hn _ _ c1,hn _ _ c2,hn _ _ c3,hn _ _ c4,hn _ _ c5,hn _ _ c6,hn _ _ c7,hn _ _ c8⟩,hd _ _ g0,hd _ _ g1,hd _ _ g2⟩
     have hNl:=(Aq.1 HJ1.out.2.1).1;have hDl:=(Aq.1 hbD).1;have hWl:=(Aq.1 HJ1.out.2.2).1;clear c0 c1 c2 c3 c4 c5 c6 c7 c8 g0 g1 g2 hSd;refine Al (S:=S) (by kernel_rfl) (HSA.out _ rfl rfl) (fun hS=>?_);have hb:Below W7.heap.size W7 W7.drew:=(Below.refl _ _).drew;obtain⟨X0,hX0⟩:=ez W7.drew;rw[←hX0]at hb hS⊢;clear hX0;refine Cf 0 ?_;refine Cf 1 ?_;refine Cf 2 ?_;refine Cf 3 ?_;refine Cf 4 ?_;refine Cf 5 ?_;refine Cf 7 ?_;refine Cf 8 ?_;refine rdy 6 (fun K hK=>?_);go_simp;refine(HCR.out _ (HLM.out _ (HJ1.out.1.trans (hb.mono (by omega)))).qt).mono ?_;rintro ee X1 ⟨rfl,hbm⟩;have hb:=hb.trans (hbm.mono hb.size);refine hK.out _ _ (HSA.out _ (hb.block N hNl) (hb.block D hDl)) (fun hS=>?_);clear hK K hbm;refine rdy 9 (fun K hK=>?_);go_simp;refine(HKN.out _ (HLM.out _ (HJ1.out.1.trans (hb.mono (by omega)))).up).mono ?_;rintro ee X2 ⟨rfl,hbm⟩;have hb:=hb.trans (hbm.mono hb.size);refine hK.out _ _ (HSA.out _ (hb.block N hNl) (hb.block D hDl)) (fun hS=>?_);clear hK K hbm;have hlm:=HLM.out X2 (HJ1.out.1.trans (hb.mono (by omega)));have hck:=oZ cc ce kl (Fw cr cc ce) Wb Kb M mp v X2 ((hb.block Wb hWl).trans HJ1.out.2.2) hlm.kb hlm.map (HKK.out cc ce);have HCK:=Ae hck;clear hlm hck;refine rdy 10 (fun K hK=>?_);go_simp;refine HCK.out.mono ?_;rintro ee X3 ⟨rfl,hb3,hw3,hsz3,ho3⟩;have hszb:=hb.size;have hN3:=(ho3 N (by omega) hNW).trans (hb.block N hNl);refine hK.out _ _ (HSA.out _ hN3 ((ho3 D (by omega) hDW).trans (hb.block D hDl))) (fun hS=>?_)
     have HJ2:Hid (Below Wb w X3∧X3.heap[N]? =some (.cells #[Aa Ab a,Aa Ab b,pv,Aa Ac rt,Aa Ab rx,Aa Ab ry,sv,Ad U nu cu,Ad (some ⟨sb,so,none⟩) m m] 82 (0,0))∧X3.heap[Wb]? =some (Obj.cells #[.bool ((z.take i).any (fun x=>x.1.ls.any (Ed a b cr up))||(ls.take (j+1)).any (Ed a b cr up))] 4 (0,0))):=
      Ae ⟨(HJ1.out.1.trans (hb.mono (by omega))).trans hb3,hN3.trans HJ1.out.2.1,by rw[HST.out];exact hw3⟩
     clear hK K hb hb3 hw3 hsz3 ho3 hN3 hS HSO HSA HCK;refine Ak (by kernel_rfl) ?_ _;go_wp2_with fail;exact⟨⟨j+1,by omega,by go_num,HJ2⟩,by simp[intOf];omega⟩
    ·obtain rfl:j=nl:=by omega
     have q1:¬(j:Int)<(j:Int):=by omega
     have ht:ls.take j=ls:=Bc (by have:=HNL.out;omega)
     have HJ2:Hid (Below Wb w wr∧wr.heap[N]? =some (.cells #[Aa Ab a,Aa Ab b,pv,Aa Ac rt,Aa Ab rx,Aa Ab ry,sv,Ad U nu cu,Ad (some ⟨sb,so,none⟩) m m] 82 (0,0))∧wr.heap[Wb]? =some (Obj.cells #[.bool ((z.take (i+1)).any fun x=>x.1.ls.any (Ed a b cr up))] 4 (0,0))):=Ae (by
      rw[HTK.out];have:=HJ.out;rw[ht]at this;exact this)
     clear ht;go_wp2_with fail;exact⟨⟨i+1,by omega,by go_num,HJ2⟩,by simp[intOf];omega⟩
  ·obtain rfl:i=m:=by omega
   have q0:¬(i:Int)<(i:Int):=by omega
   have ht:z.take i=z:=Bc (by have:=HM.out;omega);rw[ht]at HI;have HI:=Ae HI.out;clear ht;go_wp2_with fail
   go_end0
   exact⟨rfl,HI.out.1,HI.out.2.2⟩
theorem tF {a b:Int} {cr:List Cr} {root:Mv} {l:List Stk} (hE:Kp a b cr root l=0) (hp:Fy a b cr):
  (∀s∈(Vp a b cr root l).seams,Rg (Cq a b) (3*Cq a b) s)∧(Vp a b cr root l).seams.length≤3*Cq a b:=by
 have hbf:(Dd a b cr root).2=0:=by
  unfold Kp at hE
  split at hE
  ·contradiction
  ·rename_i g;exact Classical.not_not.1 g
 obtain⟨h1,h2,h3,h4⟩:=Gq hbf;have hin:cZ (Vp a b cr root l) (Cq a b):=⟨rfl,h1,h2,Ua _ _,h3,h4,hp⟩;exact Mi hin (3*Cq a b) (Aj _)
theorem Rg.perm {N j:Nat} {s t:Sm} (h:Rg N j s) (hp:SmP s t):Rg N j t:=
 ⟨hp.a▸h.qa,hp.b▸h.qb,fun p hm=>h.ps p (hp.ps.mem_iff.2 hm),fun p hm=>h.ls p (hp.ls.mem_iff.2 hm),hp.ps.length_eq▸h.lp,hp.ls.length_eq▸h.ll,hp.es.length_eq▸h.le⟩
theorem Ae3 {N j:Nat} {ss r:List Sm} (h:oL ss r) (hs:∀s∈ss,Rg N j s):(∀t∈r,Rg N j t)∧r.length=ss.length:=by
 obtain⟨z,h1,rfl,h2⟩:=h;refine⟨fun t ht=>?_,by rw[h1.length_eq];simp⟩;obtain⟨p,hp,rfl⟩:=List.mem_map.1 ht;exact(hs p.1 (h1.mem_iff.2 (List.mem_map.2 ⟨p,hp,rfl⟩))).perm (h2 p hp)
theorem gX {a b:Int} {cr:List Cr} {root:Mv} {l:List Stk} (hE:Kp a b cr root l=0):(upF a b cr root).1.length=Cq a b:=by
 have hbf:(Dd a b cr root).2=0:=by
  unfold Kp at hE
  split at hE
  ·contradiction
  ·rename_i g;exact Classical.not_not.1 g
 obtain⟨h1,-⟩:=Gq hbf;unfold upF;rw[if_neg (fun h=>h hbf),Bk,h1]
def kdM (l:List Cr):List ((Int×Int)×Ah):=l.foldl (fun m r=>Kl (r.c,r.e) (Aa Ac r.k) m) []
theorem qP (l:List Cr) (i:Nat) (h:i<l.length):kdM (l.take (i+1))=Kl (l[i].c,l[i].e) (Aa Ac l[i].k) (kdM (l.take i)):=by
 unfold kdM;rw[Ax h,List.foldl_append];rfl
theorem wP {l:List Cr} (h:l.Pairwise fun r q=>Eh r.c r.e q.c q.e<0) (c e:Int):(Ht (c,e) (kdM l)).getD (Aa Ac 0)= Aa Ac (Fw l c e):=by
 have key:∀(l:List Cr) (m:List ((Int×Int)×Ah)),(l.Pairwise fun r q=>Eh r.c r.e q.c q.e<0)→
   Ht (c,e) (l.foldl (fun m r=>Kl (r.c,r.e) (Aa Ac r.k) m) m)=match l.find? fun r=>decide (r.c=c)&&decide (r.e=e)with|some r=>some (Aa Ac r.k)|none=>Ht (c,e) m:=by
  intro l
  induction l with
  |nil=>intro m _;rfl
  |cons r t ih=>
   intro m hp;obtain⟨h1,h2⟩:=List.pairwise_cons.1 hp;rw[List.foldl_cons,ih _ h2,Ty,List.find?_cons];by_cases hr:r.c=c∧r.e=e
   ·have hnone:t.find? (fun r=>decide (r.c=c)&&decide (r.e=e))=none:=by
     rw[List.find?_eq_none];intro q hq hh;simp only[Bool.and_eq_true,decide_eq_true_eq]at hh;have:=h1 q hq;rw[hr.1,hr.2,hh.1,hh.2,Yj.2 ⟨rfl,rfl⟩]at this;omega
    rw[hnone];simp[hr.1,hr.2]
   ·have hne:¬((c,e)=(r.c,r.e)):=fun x=>hr (by simp at x;exact⟨x.1.symm,x.2.symm⟩)
    have hd:(decide (r.c=c)&&decide (r.e=e))=false:=by
     rw[←Bool.not_eq_true,Bool.and_eq_true,decide_eq_true_eq,decide_eq_true_eq];exact hr
    rw[if_neg hne,hd]
 unfold kdM;rw[key l [] h];unfold Fw
 cases l.find? fun r=>decide (r.c=c)&&decide (r.e=e)with
 |none=>rfl
 |some r=>rfl
theorem Ak3 {z:List SmZ} {f:Sm→Bool}:(z.any fun x=>f x.1)=(z.map (·.1)).any f:=by
 rw[List.any_map];rfl
theorem Nr (a b:Int) (pA:Option Addr) (cr:List Cr) (pn pc:Nat) (root:Mv) (A:Option Addr) (l:List Stk) (n cc:Nat) (w:Ag) (hp:Fy a b cr) (hpn:pn=cr.length) (hpr:Rd w pA 3 pn (crs cr)) (hpl:pn≤1000000) (ht:root.t≤255)
  (hn:n=l.length) (h:Cs w A l) (hl:n≤100000) (hls:∀x∈l,x.ls.length≤100000) (hqs:∀x∈l,x.c.q≤255) (hQ:Qf w) (hT:Tn w):
  Ai Tryz.prog 7 #[.agg #[Aa Ab a,Aa Ab b,Ad pA pn pc,Aa Ac root.t,Aa Ab root.x,Aa Ab root.y,Ad A n cc]] w (Cg (Aa Ab (St.chk ⟨a,b,cr,root,l⟩)) w):=by
 have HLK:=Ae (fun(w':Ag) (hb:Below w.heap.size w w')=>rH a b pA cr pn pc root A l n cc w' hp hpn (hpr.below hb) hpl ht hn (h.below hb) hl hls hqs (hQ.below hb) (hT.below hb));have HCX:=Ae (fun(w':Ag) (hb:Below w.heap.size w w') (uv:Ah) (O:Nat) (A2:Option Addr) (r:List Sm) (hr:Fs w' O A2 r) (hml:r.length≤1000000) (hrl:∀s∈r,s.ps.length≤1000000∧s.ls.length≤1000000)=>Xs a b (Ad pA pn pc) root A l n cc uv O A2 r r.length w' hn (h.below hb) hl hls rfl hml hr hrl);have HLP:=Ae (fun(U:Option Addr) (nu cu:Nat) (up:List Bool) (A2:Option Addr) (z:List SmZ) (m Wb Kb M:Nat) (w':Ag)=>lR a b (Ad pA pn pc) root (Ad A n cc) U nu cu up A2 z m Wb Kb M (kdM cr) cr w' hp.sheet);have HSO:=Ae (fun(hE:Kp a b cr root l=0)=>tF hE hp);have HUL:=Ae (fun(hE:Kp a b cr root l=0)=>gX hE);have HCT:=Ae (Ib hp.sheet);have HKG:=Ae (fun c e:Nat=>wP hp.asc (c:Int) (e:Int));have HPR:=Ae (fun(w':Ag) (hb:Below w.heap.size w w')=>hpr.below hb);have HPN:=Ae hpn;have HQ:=Ae (fun(w':Ag) (hb:Below w.heap.size w w')=>hQ.below hb);obtain⟨R,hR⟩:=ey (St.chk ⟨a,b,cr,root,l⟩);rw[hR];unfold St.chk at hR;dsimp only at hR;have HR:=Ae hR;obtain⟨rt,rx,ry⟩:=root;dsimp only at ht⊢;have H:=(Bx.start w).new #[Aa Ab a,Aa Ab b,Ad pA pn pc,Aa Ac rt,Aa Ab rx,Aa Ab ry,Ad A n cc] 43 rfl;clear hp hpn hpr ht hn h hl hls hqs hQ hT hR;obtain⟨E,hE⟩:=ey (Kp a b cr ⟨rt,rx,ry⟩ l);rw[hE]at HLK HSO HUL HR;dsimp only at HLK;go_enter Tryz.func7,Tryz.ntmps7;go_upto_region 1 with fail;obtain⟨N,hN⟩:=ez w.heap.size;rw[←hN]at H⊢;have HNN:=Ae hN;clear hN;obtain⟨W0,hW0⟩:=ez (w.alloc (.cells #[Aa Ab a,Aa Ab b,Ad pA pn pc,Aa Ac rt,Aa Ab rx,Aa Ab ry,Ad A n cc] 43));rw[←hW0]at H⊢;clear hW0;have hc:=fun j=>Bs W0 N j _ _ (0,0) (H.blk 0 _ _ _ rfl);have c0:W0.cell? ⟨N,0,none⟩=some (Aa Ab a):=(hc 0).trans rfl
 have c1:W0.cell? ⟨N,1,none⟩=some (Aa Ab b):=(hc 1).trans rfl;have c2:W0.cell? ⟨N,2,none⟩=some (Ad pA pn pc):=(hc 2).trans rfl;have c3:W0.cell? ⟨N,3,none⟩=some (Aa Ac rt):=(hc 3).trans rfl;have c4:W0.cell? ⟨N,4,none⟩=some (Aa Ab rx):=(hc 4).trans rfl;have c5:W0.cell? ⟨N,5,none⟩=some (Aa Ab ry):=(hc 5).trans rfl;have c6:W0.cell? ⟨N,6,none⟩=some (Ad A n cc):=(hc 6).trans rfl;clear hc hE;go_wp2_with fail;refine(HLK.out _ H.below).mono ?_;rintro ee w1 ⟨hb,hret⟩;have H1:=H.call hb;clear c0 c1 c2 c3 c4 c5 c6 HLK;rcases hret with⟨h0,rfl⟩|⟨rfl,A2,r,U,rfl,hsm,hsa,hru⟩
 ·have q1:(E != 0)=true:=by simpa using h0
  have hRE:R=E:=by rw[←HR.out,if_pos h0]
  subst hRE;unfold yT;clear hb H;go_wp2_with fail;go_ret;exact⟨rfl,by first|exact H1.below|exact(H1.other _).below⟩
 ·have hsk:=HSO.out rfl;obtain⟨hok,hlen⟩:=Ae3 hsm hsk.1;have hcn:=HCT.out;have hml:r.length≤1000000:=by have:=hsk.2;omega
  have hul:=HUL.out rfl;have hRv:=HR.out;rw[if_neg (fun h=>h rfl),Zb (P:=Fk l) (fun s t h=>Zn l s t h) hsm]at hRv;obtain⟨up,hup⟩:=ey ((upF a b cr ⟨rt,rx,ry⟩).1);rw[hup]at hru hul hRv;rw[hup];rw[Zb (P:=fun x=>x.ls.any (Ed a b cr up)) (fun s t h=>gY s t h) hsm]at hRv;have HRV:=Ae hRv;obtain⟨z,hz1,hz2,hz3⟩:=hsa;have hsa:Fs w1 W0.heap.size A2 r:=⟨z,hz1,hz2,hz3⟩;obtain⟨nu,hnu⟩:=ey up.length;rw[hnu]at hru hul;rw[hnu];have HNU:=Ae hnu;obtain⟨m,hm⟩:=ey r.length;have hzl:z.length=m:=by rw[←hm,←hz1,Bk]
  have HLM:=Ae (fun(w':Ag) (hb:Below w1.heap.size w1 w')=>(⟨(hz2.below hb).rd,fun x hx=>((hz3 x hx).same (fun g _ hg=>hb.block g hg)).2.1.2.rd,hru.below hb⟩:Rd w' A2 9 z.length (z.flatMap smC)∧(∀x∈z,Rd w' x.2.2.1 3 x.1.ls.length (Gy x.1.ls))∧Rd w' U 1 nu (Cx up)));have HCX2:=Ae (fun(w':Ag) (hb:Below w1.heap.size w1 w') (uv:Ah)=>HCX.out w' (H1.below.trans (hb.mono H1.below.size)) uv W0.heap.size A2 r (hsa.below hb) hml (fun s hs=>⟨by have:=(hok s hs).lp;omega,by have:=(hok s hs).ll;omega⟩));have HZ:=Ae (fun x (hx:x∈z)=>(⟨by have:=(hok x.1 (hz1▸List.mem_map.2 ⟨x,hx,rfl⟩)).ll;omega,fun y hy=>by have:=((hok x.1 (hz1▸List.mem_map.2 ⟨x,hx,rfl⟩)).ls y hy).2.2;omega⟩:x.1.ls.length≤1000000∧∀y∈x.1.ls,y.2.2<nu));have HZ1:=Ae hz1;have HZL:=Ae hzl;rw[hm]at HCX2 hml;rw[hm];unfold Qm at HCX2⊢;dsimp only at HCX2⊢;obtain⟨X,hX⟩:=ey (r.any (Fk l));rw[hX]at HCX2 HRV;obtain⟨P,hP⟩:=ey w1.heap.size;have H2:=H1.new #[Aa Ab a,Aa Ab b,Ad pA pn pc,Aa Ac rt,Aa Ab rx,Aa Ab ry,Ad A n cc,Ad U nu nu,Ad A2 m m] 82 hP;have hb2:Below w1.heap.size w1 (w1.alloc (.cells #[Aa Ab a,Aa Ab b,Ad pA pn pc,Aa Ac rt,Aa Ab rx,Aa Ab ry,Ad A n cc,Ad U nu nu,Ad A2 m m] 82)):=(Below.refl _ _).alloc (Aj _) _;clear hsk hok hlen hcn hul hRv hz1 hz2 hz3 hsa hru hnu hsm hm hzl hup hb H HR HSO HUL HCT HCX hX;go_upto_region 4 with fail
  try rw[hP]
  obtain⟨w2,hw2⟩:=ez (w1.alloc (.cells #[Aa Ab a,Aa Ab b,Ad pA pn pc,Aa Ac rt,Aa Ab rx,Aa Ab ry,Ad A n cc,Ad U nu nu,Ad A2 m m] 82));rw[←hw2]at H2 hb2⊢;clear hw2;obtain⟨c0,c1,c2,c3,c4,c5,c6,c7,c8⟩:=Ss (H2.blk 1 _ _ _ rfl);have HB2:=Ae hb2;have HPP:=Ae hP;clear H1 hb2 hP;go_wp2_with fail;refine(HCX2.out _ HB2.out _).mono ?_;rintro ee w3 ⟨rfl,hb⟩;have H3:=H2.call hb;have HB3:=Ae (HB2.out.trans (hb.mono HB2.out.size));clear c0 c1 c2 c3 c4 c5 c6 c7 c8 hb H2 HB2 HCX2
  cases X with
  |true=>
   have HRE:Hid (R=12):=Ae (by rw[←HRV.out,if_pos rfl]);simp only[if_true];go_wp2_with fail;go_ret;exact⟨by have h:=HRE.out;subst h;rfl,H3.below⟩
  |false=>
   simp only[Bool.false_eq_true,if_false]
   have HRV2:Hid ((if(r.any fun x=>x.ls.any (Ed a b cr up))then 13 else 0)=R):=Ae (by
    have h:=HRV.out;rw[if_neg (by decide)]at h;exact h)
   clear HRV;go_upto_region 7 with fail;obtain⟨M,hM⟩:=ey w3.heap.size;obtain⟨Kb,hKb⟩:=ey (M+1);have hmm:(Instr.makeMap 86 none).run Tryz.prog w3= .ok (.map (some w3.heap.size)) (w3.alloc (.map #[] 0)):=by first|rfl|simp[Instr.makeMap]
   have hmd:=Nx unK w3;rw[hM]at hmm hmd;have H4:=(H3.other (.map #[] 0)).new #[.map (some M)] 86 (N:=Kb) (by simp;omega);have hM4:=hmd.below ((Below.refl _ _).alloc (Aj _) (.cells #[.map (some M)] 86)) hmd.lt;have hMw:w.heap.size≤M:=by have:=H3.below.size;omega
   have HB4:=Ae (HB3.out.trans (((Below.refl w3.heap.size w3).alloc (Aj _) (.map #[] 0)).alloc (by simp) (.cells #[.map (some M)] 86)|>.mono HB3.out.size));have HMK:Hid (M<Kb):=Ae (by omega);have HM1:Hid (w1.heap.size≤M):=Ae (by have:=HB3.out.size;omega);go_upto_region 8 with fail
   try rw[hM]
   try rw[hKb]
   obtain⟨w4,hw4⟩:=ez ((w3.alloc (.map #[] 0)).alloc (.cells #[.map (some M)] 86));rw[←hw4]at H4 hM4 HB4⊢;clear hw4;clear hM hKb hmm hmd H3 HB3;have hc2:w4.cell? ⟨N,2,none⟩=some (Ad pA pn pc):=(Bs w4 N 2 _ _ (0,0) (H4.blk 0 _ _ _ rfl)).trans rfl;have HMW:=Ae hMw;have H4:=Ae H4;have hM4:=Ae hM4;clear hMw;go_wp2_with fail;clear hc2
   go_loopw [28] (fun s28 wr=>∃k:Nat,k≤pn∧s28= Aa Ab k∧Hid (Bx w [(N,#[Aa Ab a,Aa Ab b,Ad pA pn pc,Aa Ac rt,Aa Ab rx,Aa Ab ry,Ad A n cc],43),(P,#[Aa Ab a,Aa Ab b,Ad pA pn pc,Aa Ac rt,Aa Ab rx,Aa Ab ry,Ad A n cc,Ad U nu nu,Ad A2 m m],82),(Kb,#[.map (some M)],86)] wr)∧Hid (Fa unK wr M (kdM (cr.take k)))∧Hid (Below w1.heap.size w1 wr)) (fun s28 _=>pn-(intOf s28).toNat)
   case atStart=>exact⟨0,by omega,rfl,H4,hM4,HB4⟩
   case round=>
    obtain⟨k,hk,rfl,HH,HMP,HBW⟩:=hrel;clear H4 hM4 HB4;by_cases hlt:k<pn
    ·have hkl:k<cr.length:=by have:=HPN.out;omega
     have hrd:=HPR.out _ HH.out.below;rw[HPN.out]at hrd;obtain⟨bb,o,hA,hbl,d0,d1,d2⟩:=Qv hrd k hkl;have hsn:=qP cr k hkl;obtain⟨q,hq⟩:=ey (cr[k]);rw[hq]at d0 d1 d2 hsn;have HSN:=Ae hsn;have q1:(k:Int)<(pn:Int):=by omega
     have hbq:=(Below.refl wr.heap.size wr).alloc (Aj _) (.cells #[Aa Ab q.c,Aa Ac q.e,Aa Ac q.k] 89);have Kr2:=HMP.out.below hbq HMP.out.lt;have Hr2:=HH.out.other (.cells #[Aa Ab q.c,Aa Ac q.e,Aa Ac q.k] 89);have hbw2:=HBW.out.trans (hbq.mono HBW.out.size);have hkb:(wr.alloc (.cells #[Aa Ab q.c,Aa Ac q.e,Aa Ac q.k] 89)).cell? ⟨Kb,0,none⟩=some (.map (some M)):=(Su (Hr2.blk 2 _ _ _ rfl)).1;clear hrd hsn hq;subst hA;go_wp2_with (at_mapUpdate;refine Lh Ly Tryz.underlying86 _ rfl _ _ _ rfl M (kdM (cr.take k)) (q.c,q.e) (Aa Ac q.k) rfl rfl rfl Kr2 ?_;intro w9 hk9 hg9);exact⟨⟨k+1,by omega,by go_num,Ae (Hr2.mapped Kr2 hg9 HMW.out),Ae (by rw[HSN.out];exact hk9),Ae (hbw2.grown hg9 hbw2.size (fun x hx=>by injection hx with hx;have:=HM1.out;omega))⟩,by simp[intOf];omega⟩
    ·obtain rfl:k=pn:=by omega
     have q1:¬(k:Int)<(k:Int):=by omega
     have ht:cr.take k=cr:=Bc (by have:=HPN.out;omega);rw[ht]at HMP;clear ht;obtain⟨Wb,hWb⟩:=ey wr.heap.size;have hWn:=Bt wr (.cells #[.bool false] 4);rw[hWb]at hWn;have hbq:=(Below.refl wr.heap.size wr).alloc (Aj _) (.cells #[.bool false] 4);have H5:=HH.out.other (.cells #[.bool false] 4);have hM5:=HMP.out.below hbq HMP.out.lt;have hB5:=HBW.out.trans (hbq.mono HBW.out.size);have hl0:N<Wb:=by have:=HH.out.lt 0 rfl;omega
     have hl1:P<Wb:=by have:=HH.out.lt 1 rfl;omega
     have hl2:Kb<Wb:=by have:=HH.out.lt 2 rfl;omega
     have hl3:w1.heap.size≤Wb:=by have:=HBW.out.size;omega
     have hl4:w.heap.size≤Wb:=by have:=HH.out.below.size;omega
     have hMb:M<Wb:=by have:=HMK.out;omega
     have hkb:∀w',Below Wb (wr.alloc (.cells #[.bool false] 4)) w'→w'.cell? ⟨Kb,0,none⟩=some (.map (some M)):=fun w' hb=>(Su ((hb.block Kb hl2).trans (H5.blk 2 _ _ _ rfl))).1;have HLPM:=Ae (fun(w':Ag) (hb:Below Wb (wr.alloc (.cells #[.bool false] 4)) w')=>(⟨(HLM.out w' (hB5.trans (hb.mono hl3))).1,(HLM.out w' (hB5.trans (hb.mono hl3))).2.1,(HLM.out w' (hB5.trans (hb.mono hl3))).2.2,(HQ.out w' (H5.below.trans (hb.mono hl4))).qt,hM5.below hb hMb,hkb w' hb⟩:yN w' U nu up Kb M (kdM cr) A2 z));have HLP2:=Ae (HLP.out U nu nu up A2 z m Wb Kb M (wr.alloc (.cells #[.bool false] 4)) hWn HZL.out.symm hml HNU.out.symm HLPM.out (fun c e=>HKG.out c e) HZ.out)
     have hkeep:=fun w' (hb:Below Wb (wr.alloc (.cells #[.bool false] 4)) w')=>H5.keepN (M:=Wb) (fun x hx=>by
      simp only[Bh,List.not_mem_nil,or_false]at hx;rcases hx with rfl|rfl|rfl
      ·exact hl0
      ·exact hl1
      ·exact hl2) hl4 hb
     have HKP:=Ae hkeep;unfold Qm at HLP2;dsimp only at HLP2;obtain⟨c0,c1,c2,c3,c4,c5,c6,c7,c8⟩:=Ss (H5.blk 1 _ _ _ rfl);have HZA:Hid ((z.any fun x=>x.1.ls.any (Ed a b cr up))=r.any fun x=>x.ls.any (Ed a b cr up)):=Ae (by rw[←HZ1.out];exact Ak3 (f:=fun s=>s.ls.any (Ed a b cr up)));obtain⟨Y,hY⟩:∃x,(z.any fun x=>x.1.ls.any (Ed a b cr up))=x:=⟨_,rfl⟩;rw[hY]at HLP2 HZA;clear hWn hbq hM5 hB5 hl0 hl1 hl2 hl3 hl4 hMb hkb hkeep H5 hY HH HMP HBW HLPM HLP HLM;go_upto_region 14 with fail
     try rw[hWb]
     obtain⟨w5,hw5⟩:=ez (wr.alloc (.cells #[.bool false] 4));rw[←hw5]at HLP2 HKP c0 c1 c2 c3 c4 c5 c6 c7 c8⊢;clear hw5;clear hWb;go_wp2_with fail;refine HLP2.out.mono ?_;rintro ee w6 ⟨rfl,hb6,hw6⟩;have H6:=HKP.out w6 hb6;obtain⟨g0,-⟩:=Su hw6;clear c0 c1 c2 c3 c4 c5 c6 c7 c8 hb6 hw6 HLP2 HKP
     cases Y with
     |true=>
      have HRE:Hid (R=13):=Ae (by rw[←HRV2.out,←HZA.out];rfl);go_wp2_with fail;go_ret;exact⟨by have h:=HRE.out;subst h;rfl,H6.below⟩
     |false=>
      have HRE:Hid (R=0):=Ae (by rw[←HRV2.out,←HZA.out];rfl);go_wp2_with fail;go_ret;exact⟨by have h:=HRE.out;subst h;rfl,H6.below⟩
structure Gs (s:St):Prop where
 pat:Fy s.a s.b s.cr
 chk:s.chk=0
theorem Gs.stk {s:St} (h:Gs s):Kp s.a s.b s.cr s.root s.l=0:=by
 have:=h.chk;unfold St.chk at this
 split at this
 ·contradiction
 ·rename_i g;exact Classical.not_not.1 g
theorem Gs.both {s:St} (h:Gs s):(Dd s.a s.b s.cr s.root).2=0:=by
 have:=h.stk;unfold Kp at this
 split at this
 ·contradiction
 ·rename_i g;exact Classical.not_not.1 g
theorem Gs.root {s:St} (h:Gs s):s.root.ok=true:=by
 cases hr:s.root.ok with
 |true=>rfl
 |false=>
  have:=h.both;rw[Pc _ _ _ _ hr]at this
  cases this
theorem Yf {m:Mv} (h:m.ok=true):m.t<8:=by
 have:=(Mf.1 h).1;omega
theorem Gs.chkS {s:St} (h:Gs s):chkS (Cq s.a s.b) s.l=0:=by
 have:=h.stk;unfold Kp at this
 split at this
 ·contradiction
 ·split at this
  ·contradiction
  ·rename_i g;exact Classical.not_not.1 g
theorem Wr:∀(n:Nat) (l:List Nat),l.Nodup→(∀x∈l,x<n)→l.length≤n
 |0,l,_,hb=>by
  cases l with
  |nil=>simp
  |cons x r=>exact absurd (hb x (by simp)) (Nat.not_lt_zero _)
 |n+1,l,hn,hb=>by
  have h1:=Wr n (l.erase n) (hn.erase n) fun x hx=>by
   have h2:=(hn.mem_erase_iff).1 hx;have:=hb x h2.2;have:=h2.1;omega
  have h2:l.length≤(l.erase n).length+1:=by
   by_cases hm:n∈l
   ·rw[List.length_erase_of_mem hm];omega
   ·rw[List.erase_of_not_mem hm];omega
  omega
theorem tZ (l:List Stk):El l=(Dv l).length:=by
 unfold El Dv;rw[List.length_flatMap]
theorem Ae7 {n:Nat} {l:List Stk} {i:Nat} (hi:i<l.length) (h:Fh n l i=false):l[i].c.ok=true∧l[i].ls≠[]∧∀id∈l[i].ls,id<n:=by
 unfold Fh at h;rw[Ar hi]at h;simp only[Bool.or_eq_false_iff,Bool.not_eq_false',List.isEmpty_eq_false_iff,List.any_eq_false,decide_eq_true_eq]at h;exact⟨h.1.1.1,h.1.2,fun id hid=>by have:=h.2 id hid;omega⟩
theorem tS {n:Nat} {l:List Stk} {i:Nat} (hi:i+1<l.length) (h:Fh n l (i+1)=false):Fg l[i].c l[i+1].c<0:=by
 unfold Fh at h;rw[Ar hi]at h;simp only[Bool.or_eq_false_iff,Ar (show i<l.length by omega),decide_eq_false_iff_not]at h;have:=h.1.1.2;omega
theorem Gs.at {s:St} (h:Gs s):∀x∈s.l,x.c.ok=true∧x.ls≠[]∧∀id∈x.ls,id<Cq s.a s.b:=fun x hx=>by
 obtain⟨i,hi,rfl⟩:=Ay.1 hx;exact Ae7 hi ((Mt h.chkS).1 i hi)
theorem Gs.tot {s:St} (h:Gs s):El s.l≤1024:=by
 rw[tZ];have:=Ib h.pat.sheet;refine Bo (Wr (Cq s.a s.b) _ (Mt h.chkS).2.1 fun x hx=>?_) this;obtain⟨y,hy,hxy⟩:=List.mem_flatMap.1 hx;exact(h.at y hy).2.2 x hxy
theorem jB:∀{l:List Stk},(∀x∈l,x.ls≠[])→l.length≤El l
 |[],_=>by simp
 |y::r,h=>by
  have h1:=jB (l:=r) fun x hx=>h x (List.mem_cons_of_mem _ hx);have h2:0<y.ls.length:=List.length_pos_iff.2 (h y (by simp));simp[El]at h1⊢;omega
theorem Gs.len {s:St} (h:Gs s):s.l.length≤1024:=Bo (jB fun x hx=>(h.at x hx).2.1) h.tot
theorem Gs.ls {s:St} (h:Gs s):∀x∈s.l,x.ls.length≤1024:=fun _ hx=>Bo (Kf hx) h.tot
theorem Gs.q {s:St} (h:Gs s):∀x∈s.l,x.c.q≤255:=fun x hx=>by
 have:=(Er.1 (h.at x hx).1).2.2.2.2;omega
theorem Gs.pn {s:St} (h:Gs s):s.cr.length≤262400:=Rk h.pat.fit h.pat.asc
theorem Gs.img_len {s:St} (h:Gs s):(Dd s.a s.b s.cr s.root).1.2.length=Cq s.a s.b:=(Gq h.both).2.1
structure Mq (w:Ag) (cs:List Ah) (s:St):Prop where
 held:∃pA pc A cc,cs=[Aa Ab s.a,Aa Ab s.b,Ad pA s.cr.length pc,Aa Ac s.root.t,Aa Ab s.root.x,Aa Ab s.root.y,Ad A s.l.length cc]∧AOk pA s.cr.length pc∧Rd w pA 3 s.cr.length (crs s.cr)∧Cs w A s.l
theorem Mq.below {w w':Ag} {cs:List Ah} {s:St} (h:Mq w cs s) (hb:Below w.heap.size w w'):Mq w' cs s:=by
 obtain⟨pA,pc,A,cc,h1,h2,h3,h4⟩:=h.held;exact⟨⟨pA,pc,A,cc,h1,h2,h3.below hb,h4.below hb⟩⟩
end Go.Proofs.YteoffhpfcgffcaaGreatDoor
namespace Go.Proofs.YteoffhpfcgffcaaGreatDoor
def Ig (a b:Cl):Nat×Int:=if Ha a 0=(b,0)then (0,0)else if Ha a 1=(b,0)then (1,0)else if Ha a 2=(b,0)then (2,0)else (0,7)
def Ya (s:St) (u:Nat×Nat):Option (Int×Int):=
 if Fw s.cr u.1 u.2≠0 then none
 else
  let r:=Kt (s.img u.1) (Ig (s.img u.1) (s.img (nbI s.a s.b u.1 u.2).1.toNat)).1
  if r.2=0 then some r.1 else none
def Ph (p q:Int×Int):Bool:=decide (p.1<q.1)||(decide (p.1=q.1)&&decide (p.2≤q.2))
def lE (x:Int×Int):List (Int×Int)→List (Int×Int)
 |[]=>[x]
 |y::r=>if Ph x y then x::y::r else y::lE x r
def Nh:List (Int×Int)→List (Int×Int)
 |[]=>[]
 |x::r=>lE x (Nh r)
def Qc:List (Int×Int)→List (Int×Int)
 |[]=>[]
 |x::r=>match Qc r with
  |[]=>[x]
  |y::t=>if x=y then y::t else x::y::t
def Md (s:St):List (Int×Int):=Qc (Nh ((Eb s.a s.b).filterMap (Ya s)))
def Ma (s:St):List Fd:=(Md s).flatMap fun l=>[⟨l.1,l.2,0,false⟩,⟨l.1,l.2,0,true⟩,⟨l.1,l.2,1,false⟩,⟨l.1,l.2,1,true⟩]
theorem Mc {p q:Int×Int}:Ph p q=true↔p.1<q.1∨(p.1=q.1∧p.2≤q.2):=by unfold Ph;simp
theorem Wm (x:Int×Int) (l:List (Int×Int)):(lE x l).Perm (x::l):=by
 induction l with
 |nil=>exact .refl _
 |cons y r ih=>
  unfold lE
  split
  ·exact .refl _
  ·exact(ih.cons y).trans (List.Perm.swap x y r)
theorem Ps (l:List (Int×Int)):(Nh l).Perm l:=by
 induction l with
 |nil=>exact .refl _
 |cons x r ih=>exact(Wm x _).trans (ih.cons x)
theorem wE (x:Int×Int) (l:List (Int×Int)) (h:l.Pairwise fun p q=>Ph p q=true):(lE x l).Pairwise fun p q=>Ph p q=true:=by
 induction l with
 |nil=>exact List.pairwise_singleton _ _
 |cons y r ih=>
  unfold lE;have hh:=h;rw[List.pairwise_cons]at h
  split
  ·rename_i hc;rw[List.pairwise_cons];refine⟨fun z hz=>?_,hh⟩;rcases Bh.1 hz with rfl|hz
   ·exact hc
   ·have h2:=h.1 z hz;rw[Mc]at*;omega
  ·rename_i hc;rw[List.pairwise_cons];refine⟨fun z hz=>?_,ih h.2⟩;rcases Bh.1 ((Wm x r).mem_iff.1 hz)with rfl|hz
   ·rw[Mc]at*;omega
   ·exact h.1 z hz
theorem tK (l:List (Int×Int)):(Nh l).Pairwise fun p q=>Ph p q=true:=by
 induction l with
 |nil=>exact .nil
 |cons x r ih=>exact wE x _ ih
theorem Yp {L l':List (Int×Int)} (hp:l'.Perm L) (hs:l'.Pairwise fun p q=>Ph p q=true):l'=Nh L:=by
 refine Lw _ l' (Nh L) (hp.trans (Ps L).symm) hs (tK L) fun a _ b _ h1 h2=>?_;rw[Mc]at h1 h2;obtain⟨a1,a2⟩:=a;obtain⟨b1,b2⟩:=b;dsimp only at h1 h2;have e1:a1=b1:=by omega
 have e2:a2=b2:=by omega
 rw[e1,e2]
def Eo (l:List (Int×Int)):List (Int×Int):=l.foldl (fun o x=>if o.getLast? =some x then o else o++[x]) []
theorem Pf (l:List (Int×Int)) (k:Nat) (h:k<l.length):Eo (l.take (k+1))=if(Eo (l.take k)).getLast? =some l[k]then Eo (l.take k)else Eo (l.take k)++[l[k]]:=by
 unfold Eo;rw[Ax h,List.foldl_append];rfl
theorem dN (l:List (Int×Int)) (hl:l≠[]):(Eo l).getLast? =l.getLast? :=by
 have:∀(l o:List (Int×Int)),l≠[]→(l.foldl (fun o x=>if o.getLast? =some x then o else o++[x]) o).getLast? =l.getLast? :=by
  intro l
  induction l with
  |nil=>intro o h;exact absurd rfl h
  |cons x r ih=>
   intro o _;rw[List.foldl_cons];by_cases hr:r=[]
   ·subst hr;show(if o.getLast? =some x then o else o++[x]).getLast? =some x
    split
    ·assumption
    ·simp
   ·rw[ih _ hr];obtain⟨y,t,rfl⟩:=List.exists_cons_of_ne_nil hr;rw[List.getLast?_cons_cons]
 exact this l [] hl
theorem iK (l:List (Int×Int)):Qc l=Eo l:=by
 have key:∀(l o:List (Int×Int)),l.foldl (fun o x=>if o.getLast? =some x then o else o++[x]) o=o++(match Qc l with|[]=>[]|y::t=>if o.getLast? =some y then t else y::t):=by
  intro l
  induction l with
  |nil=>intro o;simp[Qc]
  |cons x r ih=>
   intro o;rw[List.foldl_cons,ih,show Qc (x::r)=(match Qc r with|[]=>[x]|y::t=>if x=y then y::t else x::y::t)from rfl]
   cases hr:Qc r with
   |nil=>
    by_cases h:o.getLast? =some x<;>simp[h]
   |cons y t=>
    by_cases h:o.getLast? =some x
    ·by_cases hxy:x=y
     ·subst hxy;simp[h]
     ·have hn:¬(some x=some y):=by simpa using hxy
      simp[h,hxy]
    ·by_cases hxy:x=y
     ·subst hxy;simp[h]
     ·simp[h,hxy]
 have h:=key l [];unfold Eo;rw[h]
 cases Qc l with
 |nil=>rfl
 |cons y t=>simp
theorem Wk (l:List (Int×Int)):(Eo l).length≤l.length:=by
 have:∀(l o:List (Int×Int)),(l.foldl (fun o x=>if o.getLast? =some x then o else o++[x]) o).length≤o.length+l.length:=by
  intro l
  induction l with
  |nil=>intro o;simp
  |cons x r ih=>
   intro o;rw[List.foldl_cons,List.length_cons];refine Bo (ih _) ?_
   split
   ·omega
   ·simp;omega
 simpa[Eo]using this l []
theorem eS {s:St} (hs:okS s.a s.b=true):(Md s).length≤3072:=by
 unfold Md;rw[iK];refine Bo (Wk _) ?_;rw[(Ps _).length_eq];refine Bo (List.length_filterMap_le _ _) ?_;have h1:=Hq s.a s.b (3*Cq s.a s.b);have h2:=Ib hs;unfold Eb;omega
def St.mv (s:St) (f:Fd):Option (List Stk):=Lr (ofL f.k f.c) (Is (Dh f.k f.c f.side s.l))
def St.rt (s:St) (f:Fd):Mv×Int:=if Gb f.k f.c (s.img 0)=f.side then Ni s.root (ofL f.k f.c)else (s.root,0)
def St.kf (s:St) (f:Fd) (i:Nat):Int:=if(upF s.a s.b s.cr s.root).1.getD i false=f.over then 2 else 1
def St.to (s:St) (f:Fd) (mv:List Stk):St:=⟨s.a,s.b,If (s.cr++Gp (Hc s f.k f.c) (s.kf f)),(s.rt f).1,if f.over then Ff (Dh f.k f.c (1-f.side) s.l) mv else Ff mv (Dh f.k f.c (1-f.side) s.l)⟩
theorem Xv (s:St) (f:Fd):s.fold f=if Kg f.k f.c f.side=false then ((1:Int),(none:Option St))else if(Hc s f.k f.c).isEmpty then (7,none)else match s.mv f with
  |none=>(3,none)
  |some mv=>if(s.rt f).2≠0 then (3,none)else if(s.to f mv).chk=0 then (0,some (s.to f mv))else (3,none):=rfl
theorem Qd {s t:St} {f:Fd} (h:(s.do f).2=some t):s.chk=0∧(s.do f).1=0∧Kg f.k f.c f.side=true∧(Hc s f.k f.c).isEmpty=false∧∃mv,s.mv f=some mv∧(s.rt f).2=0∧t=s.to f mv∧t.chk=0:=by
 unfold St.do at h⊢
 split at h
 ·cases h
 ·rename_i h0;rw[if_neg h0];rw[Xv]at h⊢
  split at h
  ·cases h
  ·rename_i h1;rw[if_neg h1]
   split at h
   ·cases h
   ·rename_i h2;rw[if_neg h2]
    split at h
    ·cases h
    ·rename_i mv hm;rw[hm]
     split at h
     ·cases h
     ·rename_i h3;rw[if_neg h3]
      split at h
      ·rename_i h4;rw[if_pos h4];injection h with h;exact⟨Classical.not_not.1 h0,rfl,by simpa using h1,by simpa using h2,mv,rfl,Classical.not_not.1 h3,h.symm,h▸h4⟩
      ·cases h
theorem iR {s:St} {f:Fd} (h:(s.do f).2=none):(s.do f).1≠0:=by
 unfold St.do at h⊢
 split
 ·assumption
 ·rename_i h0;rw[if_neg h0]at h;rw[Xv]at h⊢
  split
  ·decide
  ·rename_i h1;rw[if_neg h1]at h
   split
   ·decide
   ·rename_i h2;rw[if_neg h2]at h
    split
    ·decide
    ·rename_i mv hm;rw[hm]at h;dsimp only at h
     split
     ·decide
     ·rename_i h3;rw[if_neg h3]at h
      split
      ·rename_i h4;rw[if_pos h4]at h
       cases h
      ·decide
theorem Ah0 (s:St) (f:Fd) (i:Nat):s.kf f i=1∨s.kf f i=2:=by
 unfold St.kf
 split
 ·exact .inr rfl
 ·exact .inl rfl
theorem aS {s:St} (hp:Fy s.a s.b s.cr) (f:Fd) (mv:List Stk):Fy (s.to f mv).a (s.to f mv).b (s.to f mv).cr:=lW hp f.k f.c (s.kf f) (Ah0 s f)
theorem iQ {s t:St} {f:Fd} (h:Gs s) (hd:(s.do f).2=some t):Gs t∧t.a=s.a∧t.b=s.b:=by
 obtain⟨-,-,-,-,mv,-,-,rfl,hc⟩:=Qd hd;exact⟨⟨aS h.pat f mv,hc⟩,rfl,rfl⟩
def fd0:Fd:=⟨0,0,0,false⟩
def Ov (s:St) (k:Nat):Fd:=(Ma s).getD (k%(Ma s).length) fd0
def Ls (s:St) (k:Nat):Option St:=if(Ma s).isEmpty then none else (s.do (Ov s k)).2
def Gk:List Nat→St→List Fd×St
 |[],s=>([],s)
 |k::r,s=>match Ls s k with
  |some t=>(Ov s k::(Gk r t).1,(Gk r t).2)
  |none=>([],s)
theorem Kk {s t:St} {k:Nat} (r:List Nat) (h:Ls s k=some t):Gk (k::r) s=(Ov s k::(Gk r t).1,(Gk r t).2):=by
 show(match Ls s k with|some t=>(Ov s k::(Gk r t).1,(Gk r t).2)|none=>([],s))=_;rw[h]
theorem Iq {s:St} {k:Nat} (r:List Nat) (h:Ls s k=none):Gk (k::r) s=([],s):=by
 show(match Ls s k with|some t=>(Ov s k::(Gk r t).1,(Gk r t).2)|none=>([],s))=_;rw[h]
theorem Pn {s t:St} {k:Nat} (h:Ls s k=some t):(Ma s).isEmpty=false∧(s.do (Ov s k)).2=some t:=by
 unfold Ls at h
 cases hf:(Ma s).isEmpty with
 |true=>rw[hf]at h;cases h
 |false=>rw[hf]at h;exact⟨rfl,h⟩
def tQ (s:St) (f:Fd):St:=((s.do f).2).getD s
theorem gN {s t:St} {f:Fd} (h:(s.do f).2=some t):tQ s f=t:=by
 unfold tQ;rw[h];rfl
theorem bF:∀(ks:List Nat) (s:St),(Gk ks s).1.foldl tQ s=(Gk ks s).2
 |[],_=>rfl
 |k::r,s=>by
  cases h:Ls s k with
  |none=>rw[Iq r h];rfl
  |some t=>
   rw[Kk r h];dsimp only;rw[List.foldl_cons,gN (Pn h).2];exact bF r t
theorem jJ:∀(ks:List Nat) (s:St),Gs s→Gs (Gk ks s).2∧(Gk ks s).2.a=s.a∧(Gk ks s).2.b=s.b
 |[],_,h=>⟨h,rfl,rfl⟩
 |k::r,s,h=>by
  cases hn:Ls s k with
  |none=>rw[Iq r hn];exact⟨h,rfl,rfl⟩
  |some t=>
   rw[Kk r hn];dsimp only;obtain⟨h1,h2,h3⟩:=iQ h (Pn hn).2;obtain⟨h4,h5,h6⟩:=jJ r t h1;exact⟨h4,h5.trans h2,h6.trans h3⟩
theorem bE:∀(ks:List Nat) (s:St),(Gk ks s).1.length≤ks.length
 |[],_=>Aj _
 |k::r,s=>by
  cases hn:Ls s k with
  |none=>rw[Iq r hn];exact Nat.zero_le _
  |some t=>
   rw[Kk r hn];have:=bE r t;simp;omega
end Go.Proofs.YteoffhpfcgffcaaGreatDoor
namespace Go.Proofs.YteoffhpfcgffcaaGreatDoor
open Go.RowKit
structure Off (O M:Nat) (w w':Ag):Prop where
 os:w'.os=w.os
 tape:w'.tape=w.tape
 output:w'.output=w.output
 size:w.heap.size≤w'.heap.size
 block:∀k,k<O→k≠M→w'.heap[k]? =w.heap[k]?
theorem Off.refl (O M:Nat) (w:Ag):Off O M w w:=⟨rfl,rfl,rfl,Aj _,fun _ _ _=>rfl⟩
theorem Off.below {O M:Nat} {a b c:Ag} (h:Off O M a b) (k:Below O b c):Off O M a c:=
 ⟨k.os.trans h.os,k.tape.trans h.tape,k.output.trans h.output,Bo h.size k.size,fun i hi hm=>(k.block i hi).trans (h.block i hi hm)⟩
theorem Off.put {O M:Nat} {a b c:Ag} (h:Off O M a b) (hO:O≤b.heap.size) (k:b.grownBy c (some M)):Off O M a c:=
 ⟨k.os.trans h.os,k.tape.trans h.tape,k.output.trans h.output,Bo h.size k.size,fun i hi hm=>(k.block i (by omega) (by simpa using hm)).trans (h.block i hi hm)⟩
theorem Off.back {O M B:Nat} {a w w':Ag} (h:Off O M w w') (k:Below B a w) (hO:B≤O) (hM:B≤M):Below B a w':=
 k.trans ⟨h.os,h.tape,h.output,h.size,fun i hi=>h.block i (by omega) (by omega)⟩
theorem Rd.off {O M:Nat} {w w':Ag} {A:Option Addr} {sz n:Nat} {xs:List Ah} (h:Rd w A sz n xs) (hO:w.heap.size≤O) (k:Off O M w w') (hM:∃es c,w.heap[M]? =some (.map es c)):Rd w' A sz n xs:=by
 refine⟨h.1,fun hn=>?_⟩;obtain⟨b,o,rfl,hb,hc⟩:=h.2 hn;have hsz:=k.size;refine⟨b,o,rfl,by omega,fun j u hu=>?_⟩;have hcu:=hc j u hu
 have hne:b≠M:=by
  rintro rfl;obtain⟨es,c,hm⟩:=hM;simp[World.cell?,hm]at hcu
 rw[World.cell?_of_block (w:=w) (a:=⟨b,o+j,none⟩) (k.block b (by omega) hne)];exact hcu
theorem Cs.off {O M:Nat} {w w':Ag} {A:Option Addr} {l:List Stk} (h:Cs w A l) (hO:w.heap.size≤O) (k:Off O M w w') (hM:∃es c,w.heap[M]? =some (.map es c)):Cs w' A l:=by
 obtain⟨hs,h1,h2,h3⟩:=h;exact⟨hs,h1,h2.off hO k hM,fun i hi hi'=>⟨(h3 i hi hi').1,(h3 i hi hi').2.1,(h3 i hi hi').2.2.1,(h3 i hi hi').2.2.2.off hO k hM⟩⟩
theorem Cv.lowM {O:Nat} {w w':Ag} {v:Ah} {l:List SkR} (h:Cv O w v l) (k:∀g,O≤g→g<w.heap.size→w'.heap[g]? =w.heap[g]?):Cv O w' v l:=by
 refine⟨⟨h.1.1,h.1.2.imp id fun⟨g,cap,cur,r1,r2,r3,r4⟩=>⟨g,cap,cur,r1,r2,(k g r2 (Aq.1 r3).1).trans r3,r4⟩⟩,fun x hx=>(h.2.1 x hx).same fun g hg=>?_,h.2.2⟩;have:=(h.2.1 x hx).lt g hg;exact k g this.1 this.2.1
structure OvI (O M:Nat) (w0 wr:Ag) (v:Ah) (zl:List SkR):Prop where
 out:Cv O wr v zl
 cap:∀x∈zl,Ml wr x
 mp:Fa clK wr M (Gc (zl.map (·.1)) 0)
 off:Off O M w0 wr
 top:O≤wr.heap.size
 low:M<O
theorem OvI.below {O M:Nat} {w0 wr w':Ag} {v:Ah} {zl:List SkR} (h:OvI O M w0 wr v zl) (hb:Below wr.heap.size wr w'):OvI O M w0 w' v zl:=
 ⟨h.out.below hb,fun x hx=>(h.cap x hx).same fun g hg=>hb.block g ((h.out.2.1 x hx).lt g hg).2.1,h.mp.below hb h.mp.lt,h.off.below (hb.mono h.top),Bo h.top hb.size,h.low⟩
theorem Om {w w':Ag} {row:Option Nat} {O:Nat} (hg:w.grownBy w' row) (hO:O≤w.heap.size) (hr:∀g,row=some g→O≤g):Below O w w':=(Below.refl O w).grown hg hO hr
theorem OvI.snoc {O M:Nat} {w0 wr W1 W2 W3:Ag} {v v':Ah} {zl:List SkR} {x:SkR} (h:OvI O M w0 wr v zl) (hp:Lu x.1.c (zl.map (·.1)) 0=none)
  (h1:Fa clK W1 M (Kl x.1.c (Aa Ab (zl.length:Int)) (Gc (zl.map (·.1)) 0))) (k1:wr.grownBy W1 (some M)) (hb:Below W1.heap.size W1 W2) (hx:Gx W1.heap.size W2 x) (hc:Ml W2 x) (ho:Cv O W3 v' (zl++[x])) (hg:W2.grownBy W3 v.ownBlock):OvI O M w0 W3 v' (zl++[x]):=by
 have hO1:O≤W1.heap.size:=Bo h.top k1.size;have hO2:O≤W2.heap.size:=Bo hO1 hb.size;have hv:∀g,v.ownBlock=some g→O≤g:=fun g hg=>(h.out.1.lt g hg).1
 have hM1:Fa clK W1 M (Gc ((zl++[x]).map (·.1)) 0):=by
  rw[List.map_append];have e:=sN x.1 (zl.map (·.1)) hp;rw[Bk]at e;rw[List.map_cons,List.map_nil,←e];exact h1
 have hM:Fa clK W3 M (Gc ((zl++[x]).map (·.1)) 0):=(hM1.below hb hM1.lt).kept hg (fun e=>by have:=hv M e.symm;have:=h.low;omega);have hb3:Below O W2 W3:=Om hg hO2 hv
 have hsame:∀y∈zl,∀g∈Ey y,W3.heap[g]? =wr.heap[g]? :=fun y hy g hgy=>by
  have hk:=h.out.2.1 y hy;have hlt:=hk.lt g hgy;have h1:g<W1.heap.size:=Bm hlt.2.1 k1.size;have h2:g<W2.heap.size:=Bm h1 hb.size;rw[hg.block g h2 (Ne.symm (Nd h.out.1 hk g hgy)),hb.block g h1,k1.block g hlt.2.1 (by have:=h.low;simp;omega)]
 refine⟨ho,fun y hy=>?_,hM,((h.off.put h.top k1).below (hb.mono hO1)).below hb3,Bo hO2 hg.size,h.low⟩;rcases Bi.1 hy with hy|hy
 ·exact(h.cap y hy).same (hsame y hy)
 ·obtain rfl:=List.mem_singleton.1 hy;refine hc.same fun g hgy=>hg.block g (hx.lt g hgy).2.1 fun e=>?_;have a1:=(h.out.1.lt g e.symm).2;have a2:=(hx.lt g hgy).1;have:=k1.size;omega
theorem OvI.poke {O M:Nat} {w0 wr W1:Ag} {G n c:Nat} {zl:List SkR} {i:Nat} (h:OvI O M w0 wr (Ad (some ⟨G,0,none⟩) n c) zl) (hi:i<zl.length) (ys:List Nat) (A':Option Addr) (c':Nat)
  (hx:Gx O W1 (⟨zl[i].1.c,zl[i].1.ls++ys⟩,(A',c'))) (hc:Ml W1 (⟨zl[i].1.c,zl[i].1.ls++ys⟩,(A',c'))) (hg:wr.grownBy W1 (zl[i].2.1.map (·.block))) (hA:A'.map (·.block)=zl[i].2.1.map (·.block)∨A'.map (·.block)=some wr.heap.size):
  OvI O M w0 (W1.setCell ⟨G,i*4+3,none⟩ (Ad A' (zl[i].1.ls++ys).length c')) (Ad (some ⟨G,0,none⟩) n c) (zl.set i (⟨zl[i].1.c,zl[i].1.ls++ys⟩,(A',c')))∧(∃u,W1.cell? ⟨G,i*4+3,none⟩=some u)∧W1.frozen? ⟨G,i*4+3,none⟩=false:=by
 obtain⟨x',hx'⟩:∃z:SkR,(⟨zl[i].1.c,zl[i].1.ls++ys⟩,(A',c'))=z:=⟨_,rfl⟩;obtain⟨x0,hx0⟩:=ey (zl[i]);have hl':(zl[i].1.ls++ys).length=x'.1.ls.length:=by rw[←hx']
 have hA0:A'=x'.2.1:=by rw[←hx']
 have hc0:c'=x'.2.2:=by rw[←hx']
 rw[hl'];rw[hx']at hx hc⊢;rw[hA0]at hA⊢;rw[hc0];have hcell:x'.1.c=x0.1.c:=by rw[←hx',←hx0]
 rw[hx0]at hg hA;have hmem:x0∈zl:=hx0▸Au hi;have hk0:=h.out.2.1 x0 hmem
 have hn:n=zl.length:=by
  obtain⟨_,_,e,-⟩:=Dy h.out.1;simp at e;exact e.2.1
 subst hn;have hGO:O≤G:=(h.out.1.lt G rfl).1;have hGs:G<wr.heap.size:=(h.out.1.lt G rfl).2;have hG0:G∉Ey x0:=fun hm=>Nd h.out.1 hk0 G hm rfl;have hGW:W1.heap[G]? =wr.heap[G]? :=hg.block G hGs fun e=>hG0 (by unfold Ey;rw[←e];simp)
 have hown1:W1.ownsRow O 125 4 (Ad (some ⟨G,0,none⟩) zl.length c) zl.length (zl.flatMap Ds):=Dj h.out.1 fun g hgv=>by
  obtain rfl:G=g:=by simpa[Value.ownBlock]using hgv
  exact hGW
 have s4:=En hown1 (Dn W1 (some G)) (i*4+3) (Ad x'.2.1 x'.1.ls.length x'.2.2)
 have hset:(zl.flatMap Ds).set (i*4+3) (Ad x'.2.1 x'.1.ls.length x'.2.2)=(zl.set i x').flatMap Ds:=by
  refine(Fe Ds 4 Fj zl i 3 hi (by omega) x' _ ?_).symm;rw[hx0];simp[Ds,hcell]
 rw[hset]at s4;have hsz1:=hg.size;have hlow:=h.low
 have hst:∀g,g<wr.heap.size→g∉Ey x0→g≠G→(W1.setCell ⟨G,i*4+3,none⟩ (Ad x'.2.1 x'.1.ls.length x'.2.2)).heap[g]? =wr.heap[g]? :=fun g h1 h2 h3=>by
  rw[Below.heap_setCell _ ⟨G,i*4+3,none⟩ _ g h3];exact hg.block g h1 fun e=>h2 (by unfold Ey;rw[←e];simp)
 have hxb:∀g∈Ey x',g∈Ey x0∨g=wr.heap.size:=fun g hgx=>by
  unfold Ey at hgx⊢;rcases hA with e|e
  ·rw[e]at hgx;exact .inl hgx
  ·rw[e]at hgx;simp at hgx;exact .inr hgx
 have hxG:∀g∈Ey x',g≠G:=fun g hgx e=>by
  rcases hxb g hgx with h1|h1
  ·exact hG0 (e▸h1)
  ·omega
 have e0:zl=zl.take i++x0::zl.drop (i+1):=by rw[←hx0,←List.drop_eq_getElem_cons hi,List.take_append_drop]
 have hnd:=h.out.2.2;rw[e0]at hnd;simp only[Bf,Ba,Bl,Bi]at hnd;obtain⟨a1,⟨a2,a3,a4⟩,a5⟩:=hnd
 have hrest:∀y∈zl.take i++zl.drop (i+1),y∈zl∧∀g∈Ey y,g∉Ey x0:=fun y hy=>by
  rcases Bi.1 hy with hy|hy
  ·exact⟨List.mem_of_mem_take hy,fun g hg h0=>a5 g (List.mem_flatMap.2 ⟨y,hy,hg⟩) g (.inl h0) rfl⟩
  ·exact⟨List.mem_of_mem_drop hy,fun g hg h0=>a4 g h0 g (List.mem_flatMap.2 ⟨y,hy,hg⟩) rfl⟩
 have hsame:∀y∈zl.take i++zl.drop (i+1),∀g∈Ey y,(W1.setCell ⟨G,i*4+3,none⟩ (Ad x'.2.1 x'.1.ls.length x'.2.2)).heap[g]? =wr.heap[g]? :=fun y hy g hgy=>by
  obtain⟨hyz,hyn⟩:=hrest y hy;have hky:=h.out.2.1 y hyz;exact hst g (hky.lt g hgy).2.1 (hyn g hgy) fun e=>Nd h.out.1 hky g hgy (by rw[e];rfl)
 have hxs:∀g∈Ey x',(W1.setCell ⟨G,i*4+3,none⟩ (Ad x'.2.1 x'.1.ls.length x'.2.2)).heap[g]? =W1.heap[g]? :=fun g hgx=>Below.heap_setCell _ ⟨G,i*4+3,none⟩ _ g (hxG g hgx)
 have hmemset:∀y∈zl.set i x',y=x'∨y∈zl.take i++zl.drop (i+1):=fun y hy=>by
  rw[Rr zl i hi]at hy;rcases Bi.1 hy with hy|hy
  ·exact .inr (Bi.2 (.inl hy))
  ·rcases Bh.1 hy with hy|hy
   ·exact .inl hy
   ·exact .inr (Bi.2 (.inr hy))
 have hcells:(zl.set i x').map (·.1)=(zl.map (·.1)).set i x'.1:=by rw[List.map_set]
 have hm1:Fa clK W1 M (Gc (zl.map (·.1)) 0):=h.mp.kept hg fun e=>by
  have:=(hk0.lt M (by unfold Ey;rw[←e];simp)).1;omega
 have hold:∀g,g∈(zl.take i).flatMap Ey∨g∈(zl.drop (i+1)).flatMap Ey→g<wr.heap.size:=fun g hg=>by
  rcases hg with hg|hg
  ·obtain⟨y,hy,hgy⟩:=List.mem_flatMap.1 hg;exact((h.out.2.1 y (List.mem_of_mem_take hy)).lt g hgy).2.1
  ·obtain⟨y,hy,hgy⟩:=List.mem_flatMap.1 hg;exact((h.out.2.1 y (List.mem_of_mem_drop hy)).lt g hgy).2.1
 refine⟨⟨⟨by rw[List.length_set];exact s4.1,fun y hy=>?_,?_⟩,fun y hy=>?_,?_,?_,?_,hlow⟩,?_,Kh hown1 _⟩
 ·rcases hmemset y hy with rfl|hy
  ·exact hx.same hxs
  ·exact(h.out.2.1 y (hrest y hy).1).same (hsame y hy)
 ·rw[Rr zl i hi];simp only[Bf,Ba,Bl,Bi];refine⟨a1,⟨Po _,a3,fun a ha b hb e=>?_⟩,fun a ha b hb e=>?_⟩
  ·subst e;rcases hxb a ha with h1|h1
   ·exact a4 a h1 a hb rfl
   ·have:=hold a (.inr hb);omega
  ·subst e;rcases hb with hb|hb
   ·rcases hxb a hb with h1|h1
    ·exact a5 a ha a (.inl h1) rfl
    ·have:=hold a (.inl ha);omega
   ·exact a5 a ha a (.inr hb) rfl
 ·rcases hmemset y hy with rfl|hy
  ·exact hc.same hxs
  ·exact(h.cap y (hrest y hy).1).same (hsame y hy)
 ·rw[hcells,Um x'.1 (zl.map (·.1)) 0 i (by simpa using hi) (by simp[hx0,hcell])];obtain⟨es,clock,m1,m2⟩:=hm1;exact⟨es,clock,(Below.heap_setCell _ ⟨G,i*4+3,none⟩ _ M (by show M≠G;omega)).trans m1,m2⟩
 ·have hb1:Below O wr W1:=Om hg h.top fun g e=>(hk0.lt g (by unfold Ey;rw[e];simp)).1;exact(h.off.below hb1).below ((Below.refl O W1).setCell (p:=⟨G,i*4+3,none⟩) hGO _)
 ·simp;have:=h.top;omega
 ·have hlen:=Dl Ds 4 Fj zl;obtain⟨b,o,e,-,hcc⟩:=(Rd.of_own hown1).2 (by omega);obtain⟨rfl,rfl⟩:G=b∧0=o:=by simpa using e
  have:=hcc (i*4+3) _ (Ar (l:=zl.flatMap Ds) (by rw[hlen];omega));rw[Bp]at this;exact⟨_,this⟩
theorem fS {c:Cl} {l:List Stk} {i:Nat} (h:Lu c l 0=some i):∃h:i<l.length,l[i].c=c:=by simpa using(Od h).2
theorem dF {x:Stk} {l:List Stk} {i:Nat} (h:Lu x.c l 0=some i):∃h:i<l.length,Jb x l=l.set i ⟨x.c,l[i].ls++x.ls⟩:=by simpa using Ll h
theorem Cv.elem {O n c:Nat} {w:Ag} {A:Option Addr} {l:List SkR} (h:Cv O w (Ad A n c) l) (i:Nat) (hi:i<l.length):
  ∃G,A=some ⟨G,0,none⟩∧n=l.length∧O≤G∧G<w.heap.size∧w.cell? ⟨G,i*4,none⟩=some (Aa Ab l[i].1.c.x)∧w.cell? ⟨G,i*4+1,none⟩=some (Aa Ab l[i].1.c.y)∧w.cell? ⟨G,i*4+2,none⟩=some (Aa Ac (l[i].1.c.q:Int))∧w.cell? ⟨G,i*4+3,none⟩=some (.slice l[i].2.1 l[i].1.ls.length l[i].2.2):=by
 obtain⟨A',c',hv,-,-⟩:=Dy h.1;obtain⟨rfl,rfl,rfl⟩:A=A'∧n=l.length∧c=c':=by simpa using hv
 have hb:=h.1.lt;rcases h.1.2 with⟨-,h0⟩|⟨g,cap,cur,hv2,-⟩
 ·omega
 obtain⟨rfl,rfl⟩:A=some ⟨g,0,none⟩∧c=cap:=by simpa using hv2
 obtain⟨b,o,e,-,hcc⟩:=(Rd.of_own h.1).2 (by omega);obtain⟨rfl,rfl⟩:g=b∧0=o:=by simpa using e
 have hat:∀f,f<4→(l.flatMap Ds)[i*4+f]? =(Ds l[i])[f]? :=fun f hf=>Dc Ds 4 Fj l i f hi hf
 have hc2:∀f v,f<4→(Ds l[i])[f]? =some v→w.cell? ⟨g,i*4+f,none⟩=some v:=fun f v hf hv=>by
  have:=hcc (i*4+f) v ((hat f hf).trans hv)
  rwa [Bp]at this
 exact⟨g,rfl,rfl,(hb g rfl).1,(hb g rfl).2,hc2 0 _ (by omega) rfl,hc2 1 _ (by omega) rfl,hc2 2 _ (by omega) rfl,hc2 3 _ (by omega) rfl⟩
end Go.Proofs.YteoffhpfcgffcaaGreatDoor
