import Derived.Test.YteoffhpfcgffcaaGreatDoorQCfc
import Derived.Test.YteoffhpfcgffcaaGreatDoorQRsC
import Derived.Test.YteoffhpfcgffcaaGreatDoorQStk
import Derived.Test.YteoffhpfcgffcaaGreatDoorQSid
import Derived.Test.YteoffhpfcgffcaaGreatDoorQSog
open Array renaming getElem?_eq_some_iff→Aq
open Go renaming Calls→Ai,Value→Ah,World→Ag,bodyPost_ret→Af,cell_of_row→Bs,heap_alloc_new→Bt,wpAnyH_done→Ak,wpAnyH_ready→Am,wp_region_held_drew→Al
open Go.AllReadyH renaming cons→An,nil→Ao
open Go.IntKind renaming i64→Ab,u8→Ac
open Go.IntWalk renaming wrap64_in→Bw
open Go.Lib renaming hid→Ae,wpList_append_run→Ap
open Go.Value renaming int→Aa,slice→Ad
open List renaming flatMap_append→Bf,flatMap_cons→Ba,getElem_cons_succ→Bz,getElem_cons_zero→By,getElem_toArray→Ca,length_append→Be,length_map→Bk,mem_append→Bi,mem_cons→Bh,nodup_append→Bl,setIfInBounds_toArray→Cd,set_cons_succ→Cc,set_cons_zero→Cb
open Nat renaming le_refl→Aj,le_trans→Bo,lt_of_lt_of_le→Bm,zero_add→Bp
set_option maxHeartbeats 8000000
set_option maxRecDepth 100000
namespace Go.Proofs.YteoffhpfcgffcaaGreatDoor
open Go.RowKit
theorem fN {O m c:Nat} {w:Ag} {B:Option Addr} {l:List Cl} (h:w.ownsRow O 123 3 (Ad B m c) m (Ej l)) (i:Nat) (hi:i<l.length):
  ∃g,B=some ⟨g,0,none⟩∧w.cell? ⟨g,i*3,none⟩=some (Aa Ab l[i].x)∧w.cell? ⟨g,i*3+1,none⟩=some (Aa Ab l[i].y)∧w.cell? ⟨g,i*3+2,none⟩=some (Aa Ac (l[i].q:Int)):=by
 obtain⟨b,o,e,-,h0,h1,h2⟩:=Sj (Rd.of_own h) i hi;rcases h.2 with⟨h9,-⟩|⟨g,cap,cur,hv,-⟩
 ·injection h9 with h9;rw[h9]at e
  cases e
 obtain⟨rfl,-⟩:B=some ⟨g,0,none⟩∧c=cap:=by simpa using hv
 obtain⟨rfl,rfl⟩:g=b∧0=o:=by simpa using e
 rw[Bp]at h0 h1 h2;exact⟨g,rfl,h0,h1,h2⟩
def cW (l:List Cl) (O:Nat) (B:Option Addr) (m c:Nat) (w:Ag) (e:Ending) (w':Ag):Prop:=e= .returned (Ad B m c)∧w'.ownsRow O 123 3 (Ad B m c) m (Ej l)∧w.grownBy w' (Value.ownBlock (Ad B m c))
theorem Vl {O m c:Nat} {B:Option Addr} (l:List Cl) (w:Ag) (h:w.ownsRow O 123 3 (Ad B m c) m (Ej l)) (hm:m≤1000000) (hne:∀j (hj:j+1<l.length),l[j+1]≠l[j]):
  Ai Tryz.prog 192 #[Ad B m c] w (cW l O B m c w):=by
 have hlm:l.length=m:=by
  have:=h.1;rw[Gm]at this;omega
 have HLM:=Ae hlm;have HNE:=Ae hne;by_cases h2:m<2
 ·have HF:Hid (cW l O B m c w (.returned (Ad B m c)) w):=Ae ⟨rfl,h,Dn _ _⟩;have q0:(m:Int)<2:=by omega
  clear h hlm hne;go_enter Tryz.func192,Tryz.ntmps192;go_wp2_with fail;go_ret;exact HF.out
 ·have q0:¬(m:Int)<2:=by omega
  have HOWN:=Ae h;obtain⟨g,rfl,-⟩:=fN h 0 (by omega);clear h hlm hne;go_enter Tryz.func192,Tryz.ntmps192;go_wp2_with fail
  go_loopw [3] (fun s3 wr=>∃k:Nat,1≤k∧k≤m∧s3= Aa Ab k∧Hid (wr.ownsRow O 123 3 (Ad (some ⟨g,0,none⟩) m c) m (Ej l)∧w.grownBy wr (some g))) (fun s3 _=>m-(intOf s3).toNat)
  case atStart=>exact⟨1,by omega,by omega,rfl,Ae ⟨HOWN.out,Dn _ _⟩⟩
  case round=>
   obtain⟨k,hk1,hk,rfl,HR⟩:=hrel;by_cases hlt:k<m
   ·have q1:(k:Int)<(m:Int):=by omega
    have hkl:k<l.length:=by have:=HLM.out;omega
    have hkl1:k-1<l.length:=by omega
    obtain⟨_,e1,d0,d1,d2⟩:=fN HR.out.1 k hkl;obtain⟨_,e2,d3,d4,d5⟩:=fN HR.out.1 (k-1) hkl1;obtain rfl:=(Addr.mk.inj (Option.some.inj e1)).1;obtain rfl:=(Addr.mk.inj (Option.some.inj e2)).1;have e3:wrap64 ((k:Int)-1)=((k-1:Nat):Int):=by rw[Bw _ (by omega)];omega
    have q2:((k-1:Nat):Int)<(m:Int):=by omega
    have hn:=HNE.out (k-1) (by omega);simp only[show k-1+1=k by omega]at hn;obtain⟨⟨x0,x1,x2⟩,hx⟩:=ey (l[k]);obtain⟨⟨y0,y1,y2⟩,hy⟩:=ey (l[k-1]);rw[hx]at d0 d1 d2 hn;rw[hy]at d3 d4 d5 hn;dsimp only at d0 d1 d2 d3 d4 d5;clear hx hy e1 e2;go_upto_region 6 with fail;by_cases hd0:x0=y0
    ·by_cases hd1:x1=y1
     ·by_cases hd2:(x2:Int)=(y2:Int)
      ·exact absurd (show(⟨x0,x1,x2⟩:Cl)=⟨y0,y1,y2⟩by rw[hd0,hd1,show x2=y2 by omega]) hn
      ·subst hd0;subst hd1;clear hn
       go_quiet (fail)
       go_wp2_with fail;exact⟨⟨k+1,by omega,by omega,by go_num,Ae ⟨Ck HR.out.1 (Aj _) (Cp (Below.refl _ _) _),Et HR.out.2 _⟩⟩,by simp[intOf];omega⟩
     ·subst hd0;clear hn
      go_quiet (fail)
      go_wp2_with fail;exact⟨⟨k+1,by omega,by omega,by go_num,Ae ⟨Ck HR.out.1 (Aj _) (Cp (Below.refl _ _) _),Et HR.out.2 _⟩⟩,by simp[intOf];omega⟩
    ·clear hn
     go_quiet (fail)
     go_wp2_with fail;exact⟨⟨k+1,by omega,by omega,by go_num,Ae ⟨Ck HR.out.1 (Aj _) (Cp (Below.refl _ _) _),Et HR.out.2 _⟩⟩,by simp[intOf];omega⟩
   ·obtain rfl:k=m:=by omega
    have q1:¬(k:Int)<(k:Int):=by omega
    have HF:Hid (cW l O (some ⟨g,0,none⟩) k c w (.returned (Ad (some ⟨g,0,none⟩) k c)) wr):=Ae ⟨rfl,HR.out.1,HR.out.2⟩;clear HR;go_wp2_with fail;go_ret;exact HF.out
theorem iX:(Tryz.prog.info? 51).map (fun i=>(i.zero,i.size,i.bytes))=some (some (.agg #[Aa Ac 0,Aa Ab 0]),2,16):=by kernel_rfl
theorem Aa1 (A:Option Addr) (n c:Nat) (w:Ag) (h:n≤c) (_hm:c≤maxLen):
  Ai Tryz.prog 155 #[Ad A n c] w (Cg (Ad A n n) w):=by
 unfold maxLen at _hm;go_enter Tryz.func155,Tryz.ntmps155
 go_wp2
 go_ret;exact⟨rfl,Below.refl _ _⟩
theorem vR (A:Option Addr) (n c:Nat) (xs:List Ah) (w:Ag) (hA:AOk A n c) (h:Rd w A 2 n xs) (h1:∀u∈xs,u.oneCell'=true) (hn:n≤1000000):
  Ai Tryz.prog 156 #[Ad A n c] w (Mp 51 2 n xs w):=by
 rcases hA with⟨rfl,rfl,rfl⟩|⟨b,o,rfl⟩
 ·have hx:xs=[]:=by have:=h.1;simpa using this
  subst hx;clear hn h h1;have heq:=Cw none 0 0 Tryz.underlying181;go_enter Tryz.func156,Tryz.ntmps156;go_wp2_with fail;go_ret;exact⟨_,rfl,⟨rfl,.inl ⟨rfl,rfl⟩⟩,Below.refl _ _⟩
 ·obtain⟨i0,hi,hz,hs,hb⟩:=info_parts iX;have hown:(w.alloc (.cells #[] 51)).ownsRow w.heap.size 51 2 (Ad (some ⟨w.heap.size,0,none⟩) 0 0) 0 []:=Kj (Aj _) (Bt w _) (Aj _) (by simp[maxLen]) rfl;obtain⟨v',w',hr,h2,h3⟩:=Ei (P:=Tryz.prog) (w.alloc (.cells #[] 51)) w.heap.size 181 181 51 i0 _ 2 16 Tryz.underlying181 hi hz hs hb rfl (by decide) _ 0 [] hown (some ⟨b,o,none⟩) n c xs h1 (h.alloc _) (fun h=>by cases h) (by omega) (by decide) (by simp);rw[Bp,List.nil_append]at h2;have hbw:Below w.heap.size w w':=((Below.refl _ _).alloc (Aj _) _).grown h3 (by simp) (fun k hk=>by simp[Value.ownBlock]at hk;omega);clear hown h3 hi hz hs hb h1 h hn;have heq:=Cw (some ⟨b,o,none⟩) n c Tryz.underlying181;go_enter Tryz.func156,Tryz.ntmps156;go_wp2_with (at_builtin;refine Ap _ rfl _ _ _ _ rfl _ _ rfl rfl _ _ hr ?_);go_ret;exact⟨v',rfl,h2,hbw⟩
theorem iW:(Tryz.prog.info? 123).map (fun i=>(i.zero,i.size,i.bytes))=some (some (.agg #[Aa Ab 0,Aa Ab 0,Aa Ac 0]),3,24):=by kernel_rfl
theorem zZ (A:Option Addr) (n c:Nat) (w:Ag) (h:n≤c) (_hm:c≤maxLen):
  Ai Tryz.prog 193 #[Ad A n c] w (Cg (Ad A n n) w):=by
 unfold maxLen at _hm;go_enter Tryz.func193,Tryz.ntmps193
 go_wp2
 go_ret;exact⟨rfl,Below.refl _ _⟩
theorem vQ (A:Option Addr) (n c:Nat) (xs:List Ah) (w:Ag) (hA:AOk A n c) (h:Rd w A 3 n xs) (h1:∀u∈xs,u.oneCell'=true) (hn:n≤1000000):
  Ai Tryz.prog 190 #[Ad A n c] w (Mp 123 3 n xs w):=by
 rcases hA with⟨rfl,rfl,rfl⟩|⟨b,o,rfl⟩
 ·have hx:xs=[]:=by have:=h.1;simpa using this
  subst hx;clear hn h h1;have heq:=Cw none 0 0 Tryz.underlying118;go_enter Tryz.func190,Tryz.ntmps190;go_wp2_with fail;go_ret;exact⟨_,rfl,⟨rfl,.inl ⟨rfl,rfl⟩⟩,Below.refl _ _⟩
 ·obtain⟨i0,hi,hz,hs,hb⟩:=info_parts iW;have hown:(w.alloc (.cells #[] 123)).ownsRow w.heap.size 123 3 (Ad (some ⟨w.heap.size,0,none⟩) 0 0) 0 []:=Kj (Aj _) (Bt w _) (Aj _) (by simp[maxLen]) rfl;obtain⟨v',w',hr,h2,h3⟩:=Ei (P:=Tryz.prog) (w.alloc (.cells #[] 123)) w.heap.size 118 118 123 i0 _ 3 24 Tryz.underlying118 hi hz hs hb rfl (by decide) _ 0 [] hown (some ⟨b,o,none⟩) n c xs h1 (h.alloc _) (fun h=>by cases h) (by omega) (by decide) (by simp);rw[Bp,List.nil_append]at h2;have hbw:Below w.heap.size w w':=((Below.refl _ _).alloc (Aj _) _).grown h3 (by simp) (fun k hk=>by simp[Value.ownBlock]at hk;omega);clear hown h3 hi hz hs hb h1 h hn;have heq:=Cw (some ⟨b,o,none⟩) n c Tryz.underlying118;go_enter Tryz.func190,Tryz.ntmps190;go_wp2_with (at_builtin;refine Ap _ rfl _ _ _ _ rfl _ _ rfl rfl _ _ hr ?_);go_ret;exact⟨v',rfl,h2,hbw⟩
theorem pO (l:List Cl):∀u∈Ej l,u.oneCell'=true:=by
 intro u hu;unfold Ej at hu;obtain⟨x,-,hx⟩:=List.mem_flatMap.1 hu;simp[Cl.cells]at hx;rcases hx with rfl|rfl|rfl<;>rfl
def Th (l:List Cl) (w:Ag) (e:Ending) (w':Ag):Prop:=∃A,e= .returned (.tuple #[Ad A l.length l.length,Aa Ab 0])∧AOk A l.length l.length∧Rd w' A 3 l.length (Ej l)∧Below w.heap.size w w'
theorem gA (A:Option Addr) (l:List Cl) (n c:Nat) (w:Ag) (hn:n=l.length) (hA:AOk A n c) (h:Rd w A 3 n (Ej l)) (hl:n≤1024) (hok:∀x∈l,x.ok=true) (hs:l.Pairwise fun x y=>Fg x y<0):
  Ai Tryz.prog 120 #[Ad A n c] w (Th l w):=by
 have e0:(l.any fun c=> !c.ok)=false:=by
  rw[List.any_eq_false];intro x hx;rw[hok x hx]
  decide
 have hW:=nX A l n c w hn h (by omega);rw[e0]at hW;have HW:=Ae hW;have HCL:=Ae (fun(w':Ag) (hb:Below w.heap.size w w')=>vQ A n c (Ej l) w' hA (h.below hb) (pO l) (by omega))
 have hq:∀x∈l,x.q≤255:=fun x hx=>by
  have:=(Er.1 (hok x hx)).2.2.2.2;omega
 have hne:∀j (hj:j+1<l.length),l[j+1]≠l[j]:=fun j hj e=>by
  have h1:=List.pairwise_iff_getElem.1 hs j (j+1) (by omega) hj (by omega);rw[e,Dx]at h1;omega
 have HSR:=Ae (fun(O c:Nat) (B:Option Addr) (w':Ag) (h:w'.ownsRow O 123 3 (Ad B n c) n (Ej l))=>gB l w' h (by omega) hq hs);have HCM:=Ae (fun(O c:Nat) (B:Option Addr) (w':Ag) (h:w'.ownsRow O 123 3 (Ad B n c) n (Ej l))=>Vl l w' h (by omega) hne);have HN:=Ae hn;have q0:¬1024<(n:Int):=by omega
 clear hW e0 hn hA h hok hs hq hne;go_enter Tryz.func120,Tryz.ntmps120;go_wp2_with fail;refine HW.out.mono ?_;rintro ee w2 ⟨rfl,hb2⟩;go_wp2_with fail;refine(HCL.out _ hb2).mono ?_;rintro ee w3 ⟨v,rfl,ho3,hb3⟩;obtain⟨A3,c3,rfl,hA3,hle3,hcm3⟩:=Fx ho3;have HA3:=Ae hA3;have HO3:=Ae ho3;have HB3:=Ae (hb2.trans (hb3.mono hb2.size));have HLO:=Ae (show∀g,Value.ownBlock (Ad A3 n c3)=some g→w.heap.size≤g from fun g hg=>Bo hb2.size (ho3.lt g hg).1);clear hA3 ho3 hb3 hb2 HW HCL;go_wp2_with fail;refine(HSR.out _ _ _ _ HO3.out).mono ?_;rintro ee w4 ⟨rfl,ho4,hg4⟩;have HO4:=Ae ho4;have HB4:=Ae (HB3.out.grown hg4 HB3.out.size HLO.out);clear ho4 hg4 HSR HO3 HB3;go_wp2_with fail;refine(HCM.out _ _ _ _ HO4.out).mono ?_;rintro ee w5 ⟨rfl,ho5,hg5⟩;have HO5:=Ae ho5;have HB5:=Ae (HB4.out.grown hg5 HB4.out.size HLO.out);clear ho5 hg5 HCM HO4 HB4;go_wp2_with fail;refine(zZ A3 n c3 w5 hle3 hcm3).mono ?_;rintro ee w6 ⟨rfl,hb6⟩;have HF:Hid (Th l w (.returned (.tuple #[Ad A3 n n,Aa Ab 0])) w6):=Ae ⟨A3,by rw[←HN.out],by rw[←HN.out];exact HA3.out.clip,by rw[←HN.out];exact(Rd.of_own HO5.out).below hb6,HB5.out.trans (hb6.mono HB5.out.size)⟩;go_wp2_with fail;refine Af (v:= .tuple #[Ad A3 n n,Aa Ab 0]) (by simp[results,Tryz.results120,go_sem]) rfl ?_;exact HF.out
end Go.Proofs.YteoffhpfcgffcaaGreatDoor
namespace Go.Proofs
open Go.Shelf Go.RowKit
def Tryz.laysSortCr_ren:Go.Shelf.Ren:=⟨fun|6=>102|15=>138|14=>167|28=>207|29=>208|20=>231|21=>232|22=>233|23=>234|24=>235|25=>236|26=>237|27=>238|46=>294|47=>262|48=>263|49=>295|50=>296|57=>342|n=>n,fun|22=>36|24=>89|25=>211|3=>3|39=>261|0=>0|53=>336|55=>338|4=>4|46=>330|45=>329|50=>176|5=>5|9=>9|66=>395|70=>399|76=>442|77=>197|n=>n,fun|n=>n⟩
open Tryz in
theorem Tryz.laysSortCr:Go.Proofs.SlLaysF0.n6 Tryz.prog Tryz.laysSortCr_ren:={
 mixed:=by kernel_rfl,f6:=lyb func102,f14:=lyb func167,f15:=lyf func138,f20:=lyb func231,f21:=lyb func232,f22:=lyb func233,f23:=lyb func234,f24:=lyb func235,f25:=lyb func236,f26:=lyb func237,f27:=lyb func238,f28:=lyf func207,f29:=lyf func208,f46:=lyb func294,f47:=lyf func262,f48:=lyf func263,f49:=lyb func295,f50:=lyb func296,f57:=lyb func342,t0:=underlying0,a0:=isAgg0,z0:=sizeOf0,v0:=zeroValue0,t3:=underlying3,a3:=isAgg3,z3:=sizeOf3,v3:=zeroValue3,t4:=underlying4,a4:=isAgg4,z4:=sizeOf4,v4:=zeroValue4,t5:=underlying5,a5:=isAgg5,z5:=sizeOf5,v5:=zeroValue5,t9:=underlying9,a9:=isAgg9,z9:=sizeOf9,v9:=zeroValue9,t22:=underlying36,a22:=isAgg36,z22:=sizeOf36,v22:=zeroValue36,t25:=underlying211,a25:=isAgg211,z25:=sizeOf211,v25:=zeroValue211,t39:=underlying261,a39:=isAgg261,z39:=sizeOf261,v39:=zeroValue261,t45:=underlying329,a45:=isAgg329,z45:=sizeOf329,v45:=zeroValue329,t46:=underlying330,a46:=isAgg330,z46:=sizeOf330,v46:=zeroValue330,t50:=underlying176,a50:=isAgg176,z50:=sizeOf176,v50:=zeroValue176,t53:=underlying336,a53:=isAgg336,z53:=sizeOf336,v53:=zeroValue336,t55:=underlying338,a55:=isAgg338,z55:=sizeOf338,v55:=zeroValue338,t66:=underlying395,a66:=isAgg395,z66:=sizeOf395,v66:=zeroValue395,t70:=underlying399,a70:=isAgg399,z70:=sizeOf399,v70:=zeroValue399,t76:=underlying442,a76:=isAgg442,z76:=sizeOf442,v76:=zeroValue442,t77:=underlying197,a77:=isAgg197,z77:=sizeOf197,v77:=zeroValue197}
end Go.Proofs
namespace Go.Proofs.YteoffhpfcgffcaaGreatDoor
open Go.RowKit Go.Sort
abbrev CrE:=Int×Int×Int
def crI (x:CrE):List Ah:=[Aa Ab x.1,Aa Ac x.2.1,Aa Ac x.2.2]
def Xo (x y:CrE):Int:=orI (Cy x.1 y.1) (Cy x.2.1 y.2.1)
theorem Xq (x y:CrE) (w:Ag):Ai Tryz.prog 103 #[.agg (crI x).toArray,.agg (crI y).toArray] w (Li (Aa Ab (Xo x y)) w):=by
 obtain⟨x0,x1,x2⟩:=x;obtain⟨y0,y1,y2⟩:=y;unfold crI Xo;dsimp only;have HC1:=Ae (fun w'=>Gf x0 y0 w');have HC2:=Ae (fun w'=>Zi x1 y1 w');obtain⟨p,hp⟩:=ey (Cy x0 y0);obtain⟨q,hq⟩:=ey (Cy x1 y1);rw[hp]at HC1⊢;rw[hq]at HC2⊢;have hbd:Bd w ((w.alloc (.cells #[Aa Ab x0,Aa Ac x1,Aa Ac x2] 89)).alloc (.cells #[Aa Ab y0,Aa Ac y1,Aa Ac y2] 89)):=((Bd.refl w).alloc _).alloc _;have HB:=((Bx.start w).new #[Aa Ab x0,Aa Ac x1,Aa Ac x2] 89 rfl).new #[Aa Ab y0,Aa Ac y1,Aa Ac y2] 89 (N:=w.heap.size+1) (by simp);clear hp hq;go_enter Tryz.func103,Tryz.ntmps103;go_upto_region 1 with fail;obtain⟨W,hW⟩:=ez ((w.alloc (.cells #[Aa Ab x0,Aa Ac x1,Aa Ac x2] 89)).alloc (.cells #[Aa Ab y0,Aa Ac y1,Aa Ac y2] 89));rw[←hW]at HB hbd⊢;clear hW;obtain⟨N,hN⟩:=ez w.heap.size;rw[←hN]at HB⊢;have HNN:=Ae hN;clear hN;obtain⟨P,hP⟩:=ey (N+1);rw[hP]at HB⊢;clear hP;obtain⟨⟨a0,a1,-⟩,-⟩:=Ci (HB.blk 0 _ _ _ rfl);obtain⟨⟨b0,b1,-⟩,-⟩:=Ci (HB.blk 1 _ _ _ rfl);have HBD:=Ae hbd.drew;obtain⟨S,hSd⟩:∃S:Ag→Prop,S=fun W'=>(W'.cell? ⟨N,0,none⟩=some (Aa Ab x0)∧W'.cell? ⟨N,1,none⟩=some (Aa Ac x1))∧W'.cell? ⟨P,0,none⟩=some (Aa Ab y0)∧W'.cell? ⟨P,1,none⟩=some (Aa Ac y1):=⟨_,rfl⟩;have HSO:Hid (∀W',S W'→(W'.cell? ⟨N,0,none⟩=some (Aa Ab x0)∧W'.cell? ⟨N,1,none⟩=some (Aa Ac x1))∧W'.cell? ⟨P,0,none⟩=some (Aa Ab y0)∧W'.cell? ⟨P,1,none⟩=some (Aa Ac y1)):=Ae fun W' h=>by subst hSd;exact h
 have HSA:Hid (∀W',Below W.heap.size W W'→S W'):=Ae fun W' h=>by
  subst hSd;exact⟨⟨Ce h a0,Ce h a1⟩,Ce h b0,Ce h b1⟩
 clear hSd a0 a1 b0 b1 hbd HB;refine Al (S:=S) (by kernel_rfl) (HSA.out _ (Below.refl _ _).drew) (fun hS=>?_);have hb:Below W.heap.size W W.drew:=(Below.refl _ _).drew;obtain⟨X0,hX0⟩:=ez W.drew;rw[←hX0]at hb hS HBD⊢;clear hX0;refine Cf 0 ?_;refine Cf 1 ?_;refine Cf 2 ?_;refine Cf 3 ?_;refine Cf 5 ?_;refine Cf 6 ?_;refine Cf 7 ?_;refine Cf 8 ?_;refine rdy 4 (fun K hK=>?_);go_simp;refine(HC1.out _).mono ?_;rintro e X1 ⟨rfl,hbm⟩;have HBD:=Ae (HBD.out.trans hbm);have hb:=hb.trans (hbm.b.mono hb.size);refine hK.out _ _ (HSA.out _ hb) (fun hS=>?_);clear hK K hbm;refine rdy 9 (fun K hK=>?_);go_simp;refine(HC2.out _).mono ?_;rintro e X2 ⟨rfl,hbm⟩;have HBD:=Ae (HBD.out.trans hbm);have hb:=hb.trans (hbm.b.mono hb.size);refine hK.out _ _ (HSA.out _ hb) (fun hS=>?_);clear hK K hbm
 have hr:(X2.alloc (.cells #[Aa Ab p,Aa Ab q] 3)).rangeAt X2.heap.size 0 [Aa Ab p,Aa Ab q]:=fun j v hj=>by
  rw[Bp,Bs _ _ j _ _ (0,0) (Bt X2 _)];simpa using hj
 have HOR:=Ae (Yi X2.heap.size 2 p q _ hr);have HBD:=Ae (HBD.out.alloc (.cells #[Aa Ab p,Aa Ab q] 3));have hb:=hb.alloc hb.size (.cells #[Aa Ab p,Aa Ab q] 3);clear hr;refine rdy 10 (fun K hK=>?_);go_simp;refine hK.out _ _ (HSA.out _ hb) (fun hS=>?_);clear hK K;refine rdy 11 (fun K hK=>?_);go_simp;refine HOR.out.mono ?_;rintro e X3 ⟨rfl,hbm⟩;have HBD:=Ae (HBD.out.trans hbm);have hb:=hb.trans (hbm.b.mono hb.size);refine hK.out _ _ (HSA.out _ hb) (fun hS=>?_);clear hK K hbm;refine Cf 12 ?_;refine Ak (by kernel_rfl) ?_ _;go_wp2_with fail;go_ret;exact⟨rfl,HBD.out⟩
theorem wU (x y:CrE):ltOf Xo x y=decide (x.1<y.1∨(x.1=y.1∧x.2.1<y.2.1)):=by
 unfold ltOf Xo;rw[decide_eq_decide,Oa,Fu,Dt,Fu]
theorem Aj4:SWO (ltOf Xo) where
 irrefl x:=by rw[wU,decide_eq_false_iff_not];omega
 trans x y z h1 h2:=by rw[wU,decide_eq_true_iff]at*;omega
 ntrans x y z h1 h2:=by rw[wU,decide_eq_false_iff_not]at*;omega
theorem wJ (w:Ag):(isAgg 89).run Tryz.prog w= .ok true w:=by kernel_rfl
theorem Ac9 (w:Ag):(Go.sizeOf 89).run Tryz.prog w= .ok 3 w:=by kernel_rfl
theorem gD {O m c:Nat} {B:Option Addr} (l:List CrE) (w:Ag) (h:w.ownsRow O 89 3 (Ad B m c) m (l.flatMap crI)) (hm:m≤1000000):
  Ai Tryz.prog 102 #[Ad B m c,.func (.func 103) #[] #[]] w (Fi crI Xo l O 89 3 m (Ad B m c) w):=
 Iu Tryz.laysSortCr 3 (by decide) wJ Ac9 crI (fun _=>rfl) (fun x v hv=>by
  simp[crI]at hv;rcases hv with rfl|rfl|rfl<;>rfl) Xo Aj4 103 #[] (enters_of Tryz.func103 (by kernel_rfl) rfl) l w h hm (fun W' _ x y=>Xq x y W')
end Go.Proofs.YteoffhpfcgffcaaGreatDoor
namespace Go.Proofs.YteoffhpfcgffcaaGreatDoor
open Go.Sort
theorem Hs {a b:Int}:∀{j:Nat} {u:Nat×Nat},u∈Ez a b j→u.2<3∧3*u.1+u.2<j∧isU a b u.1 u.2=true
 |0,u,h=>by simp[Ez]at h
 |j+1,u,h=>by
  unfold Ez at h;rcases Bi.1 h with h|h
  ·obtain⟨h1,h2,h3⟩:=Hs h;exact⟨h1,by omega,h3⟩
  ·unfold Nk at h
   split at h
   ·rename_i hu;simp at h;subst h;exact⟨by show j%3<3;omega,by show 3*(j/3)+j%3<j+1;omega,hu⟩
   ·simp at h
theorem So (a b:Int):∀j,(Ez a b j).Pairwise fun u v=>3*u.1+u.2<3*v.1+v.2
 |0=> .nil
 |j+1=>by
  unfold Ez;rw[List.pairwise_append];refine⟨So a b j,?_,fun u hu v hv=>?_⟩
  ·unfold Nk
   split
   ·exact List.pairwise_singleton _ _
   ·exact .nil
  ·have h1:=(Hs hu).2.1;unfold Nk at hv
   split at hv
   ·simp at hv;subst hv;show 3*u.1+u.2<3*(j/3)+j%3;omega
   ·simp at hv
theorem Uh {a b:Int} {i e:Nat} (h:isU a b i e=true):Fz a b i e=((i:Int),(e:Int),0):=by
 unfold isU at h;simp only[Bool.and_eq_true,decide_eq_true_eq]at h;unfold Fz;rw[if_pos h.1];have:min (i:Int) (nbI a b i e).1=i:=by omega
 rw[this]
theorem iG:∀(l:List Int) (lo hi:Int),l.Pairwise (· <·)→(∀x∈l,lo≤x∧x<hi)→lo≤hi→(l.length:Int)≤hi-lo
 |[],lo,hi,_,_,h=>by simp;omega
 |x::r,lo,hi,hp,hb,h=>by
  rw[List.pairwise_cons]at hp;have hx:=hb x (by simp);have:=iG r (x+1) hi hp.2 (fun y hy=>⟨by have:=hp.1 y hy;omega,(hb y (by simp[hy])).2⟩) (by omega);simp only[List.length_cons];omega
theorem Rk {l:List Cr} (hf:∀r∈l,r.fit) (ha:l.Pairwise fun r q=>Eh r.c r.e q.c q.e<0):l.length≤262400:=by
 have h1:(l.map fun r=>r.c*256+r.e).Pairwise (· <·):=by
  rw[List.pairwise_map];refine ha.imp_of_mem fun{r q} hr hq h=>?_;have f1:=hf r hr;have f2:=hf q hq;unfold Cr.fit at f1 f2;unfold Eh at h
  split at h
  ·rename_i e;omega
  ·omega
 have h2:=iG _ 0 262400 h1 (fun x hx=>by
  obtain⟨r,hr,rfl⟩:=List.mem_map.1 hx;have f1:=hf r hr;unfold Cr.fit at f1;omega) (by decide)
 simp at h2;omega
theorem Wn (x:Cr) (l:List Cr):(lF x l).Perm (x::l):=by
 induction l with
 |nil=>exact .refl _
 |cons y r ih=>
  unfold lF
  split
  ·exact .refl _
  ·exact(ih.cons y).trans (List.Perm.swap x y r)
theorem Pt (l:List Cr):(If l).Perm l:=by
 induction l with
 |nil=>exact .refl _
 |cons x r ih=>exact(Wn x _).trans (ih.cons x)
theorem Qq {c e c' e':Int}:Eh c e c' e'≤0↔c<c'∨(c=c'∧e≤e'):=by
 unfold Eh
 split
 ·omega
 ·omega
theorem jH {c e c' e':Int}:Eh c e c' e'<0↔c<c'∨(c=c'∧e<e'):=by
 unfold Eh
 split
 ·omega
 ·omega
theorem wG (x:Cr) (l:List Cr) (h:l.Pairwise fun p q=>Eh p.c p.e q.c q.e≤0):(lF x l).Pairwise fun p q=>Eh p.c p.e q.c q.e≤0:=by
 induction l with
 |nil=>exact List.pairwise_singleton _ _
 |cons y r ih=>
  unfold lF;have hh:=h;rw[List.pairwise_cons]at h
  split
  ·rename_i hc;rw[List.pairwise_cons];refine⟨fun z hz=>?_,hh⟩;rcases Bh.1 hz with rfl|hz
   ·exact hc
   ·have h2:=h.1 z hz;rw[Qq]at*;omega
  ·rename_i hc;rw[List.pairwise_cons];refine⟨fun z hz=>?_,ih h.2⟩;rcases Bh.1 ((Wn x r).mem_iff.1 hz)with rfl|hz
   ·rw[Qq]at*;omega
   ·exact h.1 z hz
theorem bX (l:List Cr):(If l).Pairwise fun p q=>Eh p.c p.e q.c q.e≤0:=by
 induction l with
 |nil=>exact .nil
 |cons x r ih=>exact wG x _ ih
def crU (r:Cr):Int×Int:=(r.c,r.e)
theorem Yg {l:List Cr} (h:l.Pairwise fun p q=>Eh p.c p.e q.c q.e≤0) (hn:(l.map crU).Nodup):l.Pairwise fun p q=>Eh p.c p.e q.c q.e<0:=by
 unfold List.Nodup at hn;rw[List.pairwise_map]at hn;refine(h.and hn).imp fun{p q} hh=>?_;obtain⟨h1,h2⟩:=hh;rw[Qq]at h1;rw[jH];unfold crU at h2;have:¬(p.c=q.c∧p.e=q.e):=fun e=>h2 (by rw[e.1,e.2]);omega
theorem Ys {l:List Cr} (h:l.Pairwise fun p q=>Eh p.c p.e q.c q.e<0):(l.map crU).Nodup:=by
 unfold List.Nodup;rw[List.pairwise_map];refine h.imp fun{p q} hh=>?_;rw[jH]at hh;unfold crU;intro e;simp at e;omega
theorem iL:∀{l:List Cr},(l.map crU).Nodup→∀a∈l,∀b∈l,crU a=crU b→a=b
 |[],_,a,ha,_,_,_=>absurd ha (by simp)
 |y::r,h,a,ha0,b,hb0,e=>by
  rw[List.map_cons,List.nodup_cons]at h;rcases Bh.1 ha0 with e1|ha
  ·rcases Bh.1 hb0 with e2|hb
   ·rw[e1,e2]
   ·exact absurd (List.mem_map.2 ⟨b,hb,by rw[←e,e1]⟩) h.1
  ·rcases Bh.1 hb0 with e2|hb
   ·exact absurd (List.mem_map.2 ⟨a,ha,by rw[e,e2]⟩) h.1
   ·exact iL h.2 a ha b hb e
theorem Yq {L l':List Cr} (hp:l'.Perm L) (hs:l'.Pairwise fun p q=>Eh p.c p.e q.c q.e≤0) (hn:(L.map crU).Nodup):l'=If L:=by
 refine Lw _ l' (If L) (hp.trans (Pt L).symm) hs (bX L) fun a ha b hb h1 h2=>?_;refine iL hn a (hp.mem_iff.1 ha) b (hp.mem_iff.1 hb) ?_;rw[Qq]at h1 h2;unfold crU;have e1:a.c=b.c:=by omega
 have e2:a.e=b.e:=by omega
 rw[e1,e2]
theorem eN {l:List Cr} {c e:Int} (hk:∀r∈l,isK r.k=true) (h:Fw l c e=0):(c,e)∉l.map crU:=by
 intro hm;obtain⟨r,hr,hu⟩:=List.mem_map.1 hm;unfold crU at hu;simp at hu;unfold Fw at h
 split at h
 ·rename_i q hq;have h1:=hk q (List.mem_of_find?_eq_some hq);rw[h]at h1;exact absurd h1 (by decide)
 ·rename_i hq;have:=List.find?_eq_none.1 hq r hr;simp[hu.1,hu.2]at this
def Gp (l:List (Nat×Nat)) (k:Nat→Int):List Cr:=l.map fun u=>⟨u.1,u.2,k u.1⟩
theorem Oc {s:St} {k c:Int} {u:Nat×Nat} (h:u∈Hc s k c):u∈Eb s.a s.b∧Fw s.cr u.1 u.2=0:=by
 unfold Hc at h;obtain⟨h1,h2⟩:=List.mem_filter.1 h;simp only[Bool.and_eq_true,decide_eq_true_eq]at h2;exact⟨h1,h2.2⟩
theorem Oh {a b:Int} (hs:okS a b=true) {u:Nat×Nat} (h:u∈Eb a b):u.2<3∧u.1<1024∧isU a b u.1 u.2=true:=by
 obtain⟨h1,h2,h3⟩:=Hs h;have:=Ib hs;exact⟨h1,by omega,h3⟩
theorem Wq {s:St} (hp:Fy s.a s.b s.cr) (k c:Int) (kf:Nat→Int):((s.cr++Gp (Hc s k c) kf).map crU).Nodup:=by
 rw[List.map_append,Bl];refine⟨Ys hp.asc,?_,fun x hx y hy e=>?_⟩
 ·unfold Gp List.Nodup;rw[List.map_map,List.pairwise_map]
  have h1:(Hc s k c).Pairwise fun u v=>3*u.1+u.2<3*v.1+v.2:=by
   unfold Hc;exact(So s.a s.b _).filter _
  refine h1.imp fun{u v} h e=>?_;simp[crU]at e;omega
 ·subst e;unfold Gp at hy;rw[List.map_map]at hy;obtain⟨u,hu,rfl⟩:=List.mem_map.1 hy;exact eN hp.kind (Oc hu).2 hx
theorem lW {s:St} (hp:Fy s.a s.b s.cr) (k c:Int) (kf:Nat→Int) (hk:∀i,kf i=1∨kf i=2):Fy s.a s.b (If (s.cr++Gp (Hc s k c) kf)):=by
 have hpm:=Pt (s.cr++Gp (Hc s k c) kf)
 have hmem:∀r∈If (s.cr++Gp (Hc s k c) kf),r∈s.cr∨∃u∈Hc s k c,r=⟨u.1,u.2,kf u.1⟩:=fun r hr=>by
  rcases Bi.1 (hpm.mem_iff.1 hr)with h|h
  ·exact .inl h
  ·obtain⟨u,hu,e⟩:=List.mem_map.1 h;exact .inr ⟨u,hu,e.symm⟩
 have hfit:∀r∈If (s.cr++Gp (Hc s k c) kf),r.fit:=fun r hr=>by
  rcases hmem r hr with h|⟨u,hu,rfl⟩
  ·exact hp.fit r h
  ·obtain⟨b1,b2,-⟩:=Oh hp.sheet (Oc hu).1;have h12:=hk u.1;unfold Cr.fit;dsimp only;omega
 have hasc:(If (s.cr++Gp (Hc s k c) kf)).Pairwise fun r q=>Eh r.c r.e q.c q.e<0:=Yg (bX _) ((hpm.map crU).nodup_iff.2 (Wq hp k c kf));refine⟨hp.sheet,fun r hr=>?_,fun r hr=>?_,hfit,hasc,by have:=Rk hfit hasc;omega⟩
 ·rcases hmem r hr with h|⟨u,hu,rfl⟩
  ·exact hp.kind r h
  ·dsimp only;rcases hk u.1 with e|e<;>rw[e]<;>decide
 ·rcases hmem r hr with h|⟨u,hu,rfl⟩
  ·exact hp.name r h
  ·exact Uh (Oh hp.sheet (Oc hu).1).2.2
def crT (r:Cr):CrE:=(r.c,r.e,r.k)
theorem Ag5 (l:List Cr):crs l=(l.map crT).flatMap crI:=by
 unfold crs;rw[List.flatMap_map];rfl
def crB (x:CrE):Cr:=⟨x.1,x.2.1,x.2.2⟩
theorem Ag4 (l:List CrE):crs (l.map crB)=l.flatMap crI:=by
 unfold crs;rw[List.flatMap_map];rfl
theorem tL {L:List Cr} {l':List CrE} (hp:l'.Perm (L.map crT)) (hs:l'.Pairwise fun p q=>ltOf Xo q p=false) (hn:(L.map crU).Nodup):l'.map crB=If L:=by
 refine Yq ?_ ?_ hn
 ·have h:=hp.map crB;rw[List.map_map]at h;have e:(crB∘crT)=id:=by funext r;rfl
  rwa [e,List.map_id]at h
 ·rw[List.pairwise_map];refine hs.imp fun{p q} h=>?_;rw[wU,decide_eq_false_iff_not]at h;rw[Qq];unfold crB;dsimp only;omega
end Go.Proofs.YteoffhpfcgffcaaGreatDoor
namespace Go.Proofs.YteoffhpfcgffcaaGreatDoor
open Go.RowKit
theorem Ij {O:Nat} {w:Ag} {l1 l2:List SmB} {x:SmB} (h:Hx O w (l1++x::l2)):x.blks.Nodup:=by
 have:=h.2;simp only[Bf,Ba,Bl]at this;exact this.2.1.1
theorem kX (l:List Nat) (x:Nat):Cz (l++[x])=Cz l++[Aa Ab (x:Int)]:=by simp[Cz]
theorem zL {O B:Nat} {F:List Nat} {fix:List Ah} {w:Ag} {l1 l2:List SmB} {x:SmB} (h:Df O B F fix w (l1++x::l2)) (hl:x.s.es.length≤1000000) (id:Nat):
  ∃A c,x.ve= Ad A x.s.es.length c∧w.cell? ⟨x.p,8,none⟩=some (Ad A x.s.es.length c)∧
   ∃A' c' w6,(Builtin.append_ #[61,61] 61 #[Ad A x.s.es.length c,Ad (some ⟨w.heap.size,0,none⟩) 1 1]).run Tryz.prog (w.alloc (.cells ([Aa Ab (id:Int)]:List Ah).toArray 3))= .ok (Ad A' (x.s.es.length+1) c') w6∧
    w6.frozen? ⟨x.p,8,none⟩=false∧w6.cell? ⟨x.p,8,none⟩=some (Ad A x.s.es.length c)∧
    Df O B F fix (w6.setCell ⟨x.p,8,none⟩ (Ad A' (x.s.es.length+1) c')) (l1++(⟨{x.s with es:=x.s.es++[id]},x.p,x.vp,x.vl,Ad A' (x.s.es.length+1) c'⟩:SmB)::l2)∧Frm O F w (w6.setCell ⟨x.p,8,none⟩ (Ad A' (x.s.es.length+1) c')):=by
 have hsm:=h.sms
 have hO:O≤w.heap.size:=by
  obtain⟨M,kv,_,h2,_,_,_,_,_,h8,_⟩:=h;have:=(Aq.1 h2).1;omega
 have hok:=hsm.1 x (by simp);have hlt:=hok.lt;have hnd:=Ij hsm;obtain⟨h0,h1,h2,h3,h4⟩:=hok;obtain⟨A,c,hv,-,-⟩:=Dy h4;obtain⟨A',c',w6,hrun,ho6,hb6,hg6,hM6,-,-,hfr⟩:=Pa (sl:=61) Tryz.underlying61 Qk rfl (by decide) (by decide) w O x.s.es.length x.ve _ h4 hO (by omega) [Aa Ab (id:Int)] rfl (by simp[Value.oneCell']);have hnd':=hnd;unfold SmB.blks at hnd';simp only[List.nodup_cons,Bl,Bi,Option.mem_toList,not_or]at hnd';obtain⟨⟨⟨np1,np2⟩,np3⟩,⟨-,-,n12⟩,-,n3⟩:=hnd';have hpl:x.p<w.heap.size:=(Aq.1 h1).1;have hpb:w6.heap[x.p]? =some (.cells (x.s.cells x.vp x.vl x.ve) 149 (0,0)):=(hg6.block x.p hpl (Ne.symm np3)).trans h1;have hb:=vL (s:={x.s with es:=x.s.es++[id]}) (v:= Ad A' (x.s.es.length+1) c') (N:=w.heap.size) hnd (fun g hg=>(hlt g hg).2) hfr
 have hnew:∀g,(Value.ownBlock (Ad A' (x.s.es.length+1) c'))=some g→g≠x.p:=by
  intro g hg e;subst e;rcases hfr with e|⟨g,e,hge⟩
  ·rw[e]at hg;exact np3 hg
  ·rw[e]at hg;injection hg with hg;omega
 have hother:∀g,g<w.heap.size→g≠x.p→x.ve.ownBlock≠some g→(w6.setCell ⟨x.p,8,none⟩ (Ad A' (x.s.es.length+1) c')).heap[g]? =w.heap[g]? :=fun g hg hp hve=>
  (Below.heap_setCell w6 ⟨x.p,8,none⟩ _ g (by show g≠x.p;exact hp)).trans (hg6.block g hg (Ne.symm hve))
 have hy:(⟨{x.s with es:=x.s.es++[id]},x.p,x.vp,x.vl,Ad A' (x.s.es.length+1) c'⟩:SmB).ok O (w6.setCell ⟨x.p,8,none⟩ (Ad A' (x.s.es.length+1) c')):=by
  refine⟨h0,?_,?_,?_,?_⟩
  ·rw[Ek _ hpb];rfl
  ·exact Dj h2 fun g hg=>hother g (h2.lt g hg).2 (fun e=>np1 (e▸hg)) fun e=>n3 g (.inl hg) g e rfl
  ·exact Dj h3 fun g hg=>hother g (h3.lt g hg).2 (fun e=>np2 (e▸hg)) fun e=>n3 g (.inr hg) g e rfl
  ·rw[kX,Be];exact Dj ho6 fun g hg=>Below.heap_setCell w6 ⟨x.p,8,none⟩ _ g (by show g≠x.p;exact hnew g hg)
 have hsz:w.heap.size≤(w6.setCell ⟨x.p,8,none⟩ (Ad A' (x.s.es.length+1) c')).heap.size:=by
  have:=hg6.size;simpa using this
 obtain⟨r1,r2⟩:=h.change (y:=⟨{x.s with es:=x.s.es++[id]},x.p,x.vp,x.vl,Ad A' (x.s.es.length+1) c'⟩) hy rfl rfl hb.1 hb.2 (fun g hg hx=>hother g hg (fun e=>hx (by rw[e];simp[SmB.blks])) (fun e=>hx (by unfold SmB.blks;simp[e]))) hsz;refine⟨A,c,hv,?_,A',c',w6,by rw[←hv];exact hrun,by simp[World.frozen?,hpb],?_,r1,hb6.setCell (p:=⟨x.p,8,none⟩) h0 _,r2⟩
 ·rw[Bs w x.p 8 _ _ (0,0) h1,←hv];rfl
 ·rw[Bs w6 x.p 8 _ _ (0,0) hpb,←hv];rfl
theorem Xk {O B:Nat} {F:List Nat} {fix:List Ah} {w:Ag} {l1 l2:List SmB} {x:SmB} (h:Df O B F fix w (l1++x::l2)) (hl:x.s.ls.length≤1000000) (z:Nat×Nat×Nat):
  ∃A c,x.vl= Ad A x.s.ls.length c∧w.cell? ⟨x.p,7,none⟩=some (Ad A x.s.ls.length c)∧
   ∃A' c' w6,(Builtin.append_ #[147,147] 147 #[Ad A x.s.ls.length c,Ad (some ⟨w.heap.size,0,none⟩) 1 1]).run Tryz.prog (w.alloc (.cells ([Aa Ac (z.1:Int),Aa Ab (z.2.1:Int),Aa Ab (z.2.2:Int)]:List Ah).toArray 152))= .ok (Ad A' (x.s.ls.length+1) c') w6∧
    w6.frozen? ⟨x.p,7,none⟩=false∧w6.cell? ⟨x.p,7,none⟩=some (Ad A x.s.ls.length c)∧
    Df O B F fix (w6.setCell ⟨x.p,7,none⟩ (Ad A' (x.s.ls.length+1) c')) (l1++(⟨{x.s with ls:=x.s.ls++[z]},x.p,x.vp,Ad A' (x.s.ls.length+1) c',x.ve⟩:SmB)::l2)∧Frm O F w (w6.setCell ⟨x.p,7,none⟩ (Ad A' (x.s.ls.length+1) c')):=by
 have hsm:=h.sms
 have hO:O≤w.heap.size:=by
  obtain⟨M,kv,_,h2,_,_,_,_,_,h8,_⟩:=h;have:=(Aq.1 h2).1;omega
 have hok:=hsm.1 x (by simp);have hlt:=hok.lt;have hnd:=Ij hsm;obtain⟨h0,h1,h2,h3,h4⟩:=hok;obtain⟨A,c,hv,-,-⟩:=Dy h3;obtain⟨A',c',w6,hrun,ho6,hb6,hg6,hM6,-,-,hfr⟩:=Pa (sl:=147) Tryz.underlying147 Zx rfl (by decide) (by decide) w O x.s.ls.length x.vl _ h3 hO (by omega) [Aa Ac (z.1:Int),Aa Ab (z.2.1:Int),Aa Ab (z.2.2:Int)] rfl (by simp[Value.oneCell']);have hnd':=hnd;unfold SmB.blks at hnd';simp only[List.nodup_cons,Bl,Bi,Option.mem_toList,not_or]at hnd';obtain⟨⟨⟨np1,np2⟩,np3⟩,⟨-,-,n12⟩,-,n3⟩:=hnd';have hpl:x.p<w.heap.size:=(Aq.1 h1).1;have hpb:w6.heap[x.p]? =some (.cells (x.s.cells x.vp x.vl x.ve) 149 (0,0)):=(hg6.block x.p hpl (Ne.symm np2)).trans h1;have hb:=vM (s:={x.s with ls:=x.s.ls++[z]}) (v:= Ad A' (x.s.ls.length+1) c') (N:=w.heap.size) hnd (fun g hg=>(hlt g hg).2) hfr
 have hnew:∀g,(Value.ownBlock (Ad A' (x.s.ls.length+1) c'))=some g→g≠x.p:=by
  intro g hg e;subst e;rcases hfr with e|⟨g,e,hge⟩
  ·rw[e]at hg;exact np2 hg
  ·rw[e]at hg;injection hg with hg;omega
 have hother:∀g,g<w.heap.size→g≠x.p→x.vl.ownBlock≠some g→(w6.setCell ⟨x.p,7,none⟩ (Ad A' (x.s.ls.length+1) c')).heap[g]? =w.heap[g]? :=fun g hg hp hve=>
  (Below.heap_setCell w6 ⟨x.p,7,none⟩ _ g (by show g≠x.p;exact hp)).trans (hg6.block g hg (Ne.symm hve))
 have hy:(⟨{x.s with ls:=x.s.ls++[z]},x.p,x.vp,Ad A' (x.s.ls.length+1) c',x.ve⟩:SmB).ok O (w6.setCell ⟨x.p,7,none⟩ (Ad A' (x.s.ls.length+1) c')):=by
  refine⟨h0,?_,?_,?_,?_⟩
  ·rw[Ek _ hpb];rfl
  ·exact Dj h2 fun g hg=>hother g (h2.lt g hg).2 (fun e=>np1 (e▸hg)) fun e=>n12 g hg g e rfl
  ·rw[eV,Be];exact Dj ho6 fun g hg=>Below.heap_setCell w6 ⟨x.p,7,none⟩ _ g (by show g≠x.p;exact hnew g hg)
  ·exact Dj h4 fun g hg=>hother g (h4.lt g hg).2 (fun e=>np3 (e▸hg)) fun e=>n3 g (.inr e) g hg rfl
 have hsz:w.heap.size≤(w6.setCell ⟨x.p,7,none⟩ (Ad A' (x.s.ls.length+1) c')).heap.size:=by
  have:=hg6.size;simpa using this
 obtain⟨r1,r2⟩:=h.change (y:=⟨{x.s with ls:=x.s.ls++[z]},x.p,x.vp,Ad A' (x.s.ls.length+1) c',x.ve⟩) hy rfl rfl hb.1 hb.2 (fun g hg hx=>hother g hg (fun e=>hx (by rw[e];simp[SmB.blks])) (fun e=>hx (by unfold SmB.blks;simp[e]))) hsz;refine⟨A,c,hv,?_,A',c',w6,by rw[←hv];exact hrun,by simp[World.frozen?,hpb],?_,r1,hb6.setCell (p:=⟨x.p,7,none⟩) h0 _,r2⟩
 ·rw[Bs w x.p 7 _ _ (0,0) h1,←hv];rfl
 ·rw[Bs w6 x.p 7 _ _ (0,0) hpb,←hv];rfl
theorem oP {O B:Nat} {F:List Nat} {fix:List Ah} {w:Ag} {l1 l2:List SmB} {x:SmB} (h:Df O B F fix w (l1++x::l2)) (hl:x.s.ps.length≤1000000) (z:Nat×Nat):
  ∃A c,x.vp= Ad A x.s.ps.length c∧w.cell? ⟨x.p,6,none⟩=some (Ad A x.s.ps.length c)∧
   ∃A' c' w6,(Builtin.append_ #[146,146] 146 #[Ad A x.s.ps.length c,Ad (some ⟨w.heap.size,0,none⟩) 1 1]).run Tryz.prog (w.alloc (.cells ([Aa Ab (z.1:Int),Aa Ab (z.2:Int)]:List Ah).toArray 304))= .ok (Ad A' (x.s.ps.length+1) c') w6∧
    w6.frozen? ⟨x.p,6,none⟩=false∧w6.cell? ⟨x.p,6,none⟩=some (Ad A x.s.ps.length c)∧
    Df O B F fix (w6.setCell ⟨x.p,6,none⟩ (Ad A' (x.s.ps.length+1) c')) (l1++(⟨{x.s with ps:=x.s.ps++[z]},x.p,Ad A' (x.s.ps.length+1) c',x.vl,x.ve⟩:SmB)::l2)∧Frm O F w (w6.setCell ⟨x.p,6,none⟩ (Ad A' (x.s.ps.length+1) c')):=by
 have hsm:=h.sms
 have hO:O≤w.heap.size:=by
  obtain⟨M,kv,_,h2,_,_,_,_,_,h8,_⟩:=h;have:=(Aq.1 h2).1;omega
 have hok:=hsm.1 x (by simp);have hlt:=hok.lt;have hnd:=Ij hsm;obtain⟨h0,h1,h2,h3,h4⟩:=hok;obtain⟨A,c,hv,-,-⟩:=Dy h2;obtain⟨A',c',w6,hrun,ho6,hb6,hg6,hM6,-,-,hfr⟩:=Pa (sl:=146) Tryz.underlying146 Zy rfl (by decide) (by decide) w O x.s.ps.length x.vp _ h2 hO (by omega) [Aa Ab (z.1:Int),Aa Ab (z.2:Int)] rfl (by simp[Value.oneCell']);have hnd':=hnd;unfold SmB.blks at hnd';simp only[List.nodup_cons,Bl,Bi,Option.mem_toList,not_or]at hnd';obtain⟨⟨⟨np1,np2⟩,np3⟩,⟨-,-,n12⟩,-,n3⟩:=hnd';have hpl:x.p<w.heap.size:=(Aq.1 h1).1;have hpb:w6.heap[x.p]? =some (.cells (x.s.cells x.vp x.vl x.ve) 149 (0,0)):=(hg6.block x.p hpl (Ne.symm np1)).trans h1;have hb:=vN (s:={x.s with ps:=x.s.ps++[z]}) (v:= Ad A' (x.s.ps.length+1) c') (N:=w.heap.size) hnd (fun g hg=>(hlt g hg).2) hfr
 have hnew:∀g,(Value.ownBlock (Ad A' (x.s.ps.length+1) c'))=some g→g≠x.p:=by
  intro g hg e;subst e;rcases hfr with e|⟨g,e,hge⟩
  ·rw[e]at hg;exact np1 hg
  ·rw[e]at hg;injection hg with hg;omega
 have hother:∀g,g<w.heap.size→g≠x.p→x.vp.ownBlock≠some g→(w6.setCell ⟨x.p,6,none⟩ (Ad A' (x.s.ps.length+1) c')).heap[g]? =w.heap[g]? :=fun g hg hp hve=>
  (Below.heap_setCell w6 ⟨x.p,6,none⟩ _ g (by show g≠x.p;exact hp)).trans (hg6.block g hg (Ne.symm hve))
 have hy:(⟨{x.s with ps:=x.s.ps++[z]},x.p,Ad A' (x.s.ps.length+1) c',x.vl,x.ve⟩:SmB).ok O (w6.setCell ⟨x.p,6,none⟩ (Ad A' (x.s.ps.length+1) c')):=by
  refine⟨h0,?_,?_,?_,?_⟩
  ·rw[Ek _ hpb];rfl
  ·rw[fQ,Be];exact Dj ho6 fun g hg=>Below.heap_setCell w6 ⟨x.p,6,none⟩ _ g (by show g≠x.p;exact hnew g hg)
  ·exact Dj h3 fun g hg=>hother g (h3.lt g hg).2 (fun e=>np2 (e▸hg)) fun e=>n12 g e g hg rfl
  ·exact Dj h4 fun g hg=>hother g (h4.lt g hg).2 (fun e=>np3 (e▸hg)) fun e=>n3 g (.inl e) g hg rfl
 have hsz:w.heap.size≤(w6.setCell ⟨x.p,6,none⟩ (Ad A' (x.s.ps.length+1) c')).heap.size:=by
  have:=hg6.size;simpa using this
 obtain⟨r1,r2⟩:=h.change (y:=⟨{x.s with ps:=x.s.ps++[z]},x.p,Ad A' (x.s.ps.length+1) c',x.vl,x.ve⟩) hy rfl rfl hb.1 hb.2 (fun g hg hx=>hother g hg (fun e=>hx (by rw[e];simp[SmB.blks])) (fun e=>hx (by unfold SmB.blks;simp[e]))) hsz;refine⟨A,c,hv,?_,A',c',w6,by rw[←hv];exact hrun,by simp[World.frozen?,hpb],?_,r1,hb6.setCell (p:=⟨x.p,6,none⟩) h0 _,r2⟩
 ·rw[Bs w x.p 6 _ _ (0,0) h1,←hv];rfl
 ·rw[Bs w6 x.p 6 _ _ (0,0) hpb,←hv];rfl
theorem Aa3:(Tryz.prog.info? 223).map (fun i=>(i.zero,i.size,i.bytes))=some (some (.agg #[Aa Ab 0,Aa Ab 0,Aa Ac 0,Aa Ab 0,Aa Ab 0,Aa Ac 0]),6,48):=by kernel_rfl
theorem Fa.same {κ:Type} {K:κ→Ah} {w w':Ag} {M:Nat} {l:List (κ×Ah)} (h:Fa K w M l) (hb:w'.heap[M]? =w.heap[M]?):Fa K w' M l:=by
 obtain⟨es,clock,h1,h2⟩:=h;exact⟨es,clock,hb.trans h1,h2⟩
def Io:Ah:= Ad none 0 0
theorem vA {O B M:Nat} {F:List Nat} {fix:List Ah} {W Y0 Y2:Ag} {l:List SmB} {kv:Ah} {p:Cl×Cl} (e1:fix.length=6) (e2:W.heap[B]? =some (.cells (fix++[.map (some M),kv]).toArray 218 (0,0))) (e3:Fa pkK W M (Hk l))
  (e4:Ii O W kv l) (e5:Hx O W l) (e6:(l.map SmB.key).Nodup) (e7:(Ct B M kv l).Nodup) (e8:O≤B) (e9:O≤M) (e10:∀g∈F,g<W.heap.size∧g∉Ct B M kv l)
  (hl:l.length≤900000000) (hb:Below W.heap.size W Y0) (hnew:p∉l.map SmB.key)
  (h1:Fa pkK Y2 M (Kl p (.pointer (some ⟨Y0.heap.size,0,none⟩)) (Hk l))) (h2:(Y0.alloc (.cells ((Sm.none p.1 p.2).cells Io Io Io) 149)).grownBy Y2 (some M)):
  ∃A c,kv= Ad A l.length c∧Y2.cell? ⟨B,7,none⟩=some (Ad A l.length c)∧
   ∃A' c' Y5,(Builtin.append_ #[216,216] 216 #[Ad A l.length c,Ad (some ⟨Y2.drew.heap.size,0,none⟩) 1 1]).run Tryz.prog (Y2.drew.alloc (.cells (pkC p).toArray 223))= .ok (Ad A' (l.length+1) c') Y5∧
    Y5.frozen? ⟨B,7,none⟩=false∧Y5.cell? ⟨B,7,none⟩=some (Ad A l.length c)∧Y2.drew.grownBy Y5 kv.ownBlock∧
    Df O B F fix (Y5.setCell ⟨B,7,none⟩ (Ad A' (l.length+1) c')) (l++[⟨Sm.none p.1 p.2,Y0.heap.size,Io,Io,Io⟩])∧Frm O F W (Y5.setCell ⟨B,7,none⟩ (Ad A' (l.length+1) c')):=by
 obtain⟨y,hy⟩:∃z:SmB,(⟨Sm.none p.1 p.2,Y0.heap.size,Io,Io,Io⟩:SmB)=z:=⟨_,rfl⟩;have hlt:=Rh e2 e3 e4 e5 e8 e9;have hBl:B<W.heap.size:=(Aq.1 e2).1;have hMl:=e3.lt;have hnd:=e7;unfold Ct at hnd;simp only[List.nodup_cons,Bl,Bh,Bi,Option.mem_toList,not_or]at hnd;obtain⟨⟨b1,b2,b3⟩,⟨m1,m2⟩,k1,k2,k3⟩:=hnd;have hW0:=hb.size
 have st2:∀g,g<W.heap.size→g≠M→Y2.heap[g]? =W.heap[g]? :=fun g hg hM=>by
  have hg0:g<Y0.heap.size:=by omega
  refine(h2.block g (by simp;omega) (fun e=>hM (by injection e))).trans ?_;exact(Below.heap_alloc Y0 _ g hg0).trans (hb.block g hg)
 have hs2:Y0.heap.size+1≤Y2.heap.size:=by have:=h2.size;simpa using this
 have e2':Y2.heap[B]? =some (.cells (fix++[.map (some M),kv]).toArray 218 (0,0)):=(st2 B hBl b1).trans e2;obtain⟨ks,hkp,e4r⟩:=e4;have e4:Ii O W kv l:=⟨ks,hkp,e4r⟩;have hkl:ks.length=l.length:=by rw[hkp.length_eq,Bk]
 rw[hkl]at e4r;have ho2:Y2.drew.ownsRow O 223 6 kv l.length (ks.flatMap pkC):=Dj e4r fun g hg=>st2 g (e4r.lt g hg).2 (fun e=>m1 (e▸hg));obtain⟨A,c,hv,-,-⟩:=Dy e4r;have hO:O≤Y2.drew.heap.size:=by show O≤Y2.heap.size;omega
 obtain⟨A',c',Y5,hrun,ho5,hb5,hg5,hM5,-,-,hfr⟩:=Pa (sl:=216) Tryz.underlying216 Aa3 rfl (by decide) (by decide) Y2.drew O l.length kv _ ho2 hO (by omega) (pkC p) rfl (by simp[pkC,Value.oneCell']);obtain⟨kv',hkv'⟩:=ey (Value.slice A' (l.length+1) c');rw[hkv']at hrun ho5 hfr;have hs5:Y2.heap.size≤Y5.heap.size:=hg5.size
 have st5:∀g,g<W.heap.size→g≠M→kv.ownBlock≠some g→Y5.heap[g]? =W.heap[g]? :=fun g hg hM hk=>
  (hg5.block g (by show g<Y2.heap.size;omega) (Ne.symm hk)).trans (st2 g hg hM)
 have e5':Y5.heap[B]? =some (.cells (fix++[.map (some M),kv]).toArray 218 (0,0)):=(st5 B hBl b1 b2).trans e2;obtain⟨-,c7,cz,cset,-⟩:=Ge e1 e5';obtain⟨-,c7',-,-,-⟩:=Ge e1 e2'
 have hseam:Y5.heap[Y0.heap.size]? =some (.cells ((Sm.none p.1 p.2).cells Io Io Io) 149 (0,0)):=by
  refine(hg5.block _ (by show Y0.heap.size<Y2.heap.size;omega) (fun e=>?_)).trans ?_
  ·have:=(e4.lt _ e.symm).2;omega
  ·refine(h2.block _ (by simp) (fun e=>?_)).trans (Bt Y0 _);injection e with e;omega
 have stS:∀g,g≠B→(Y5.setCell ⟨B,7,none⟩ kv').heap[g]? =Y5.heap[g]? :=fun g hg=>Below.heap_setCell Y5 ⟨B,7,none⟩ kv' g (by show g≠B;exact hg);have hyk:y.key=p:=by subst hy;rfl
 have hyp:y.p=Y0.heap.size:=by subst hy;rfl
 have hyok:y.ok O (Y5.setCell ⟨B,7,none⟩ kv'):=by
  subst hy;refine⟨by show O≤Y0.heap.size;omega,(stS _ (by show Y0.heap.size≠B;omega)).trans hseam,⟨rfl,.inl ⟨rfl,rfl⟩⟩,⟨rfl,.inl ⟨rfl,rfl⟩⟩,⟨rfl,.inl ⟨rfl,rfl⟩⟩⟩
 have hyb:y.blks=[Y0.heap.size]:=by subst hy;rfl
 have hkb:∀g,kv'.ownBlock=some g→g≠B∧g≠M∧g≠Y0.heap.size:=fun g hg=>by
  rcases hfr with h|⟨g',h,hge⟩
  ·rw[h]at hg;refine⟨fun e=>b2 (e▸hg),fun e=>m1 (e▸hg),fun e=>?_⟩;have:=(e4.lt g hg).2;omega
  ·rw[h]at hg;injection hg with hg;have:Y2.drew.heap.size=Y2.heap.size:=rfl;refine⟨?_,?_,?_⟩<;>omega
 have hbW:Below O W (Y5.setCell ⟨B,7,none⟩ kv'):=by
  have q1:Below O W Y0:=hb.mono (by omega);have q2:Below O W (Y0.alloc (.cells ((Sm.none p.1 p.2).cells Io Io Io) 149)):=q1.alloc (by omega) _;have q3:Below O W Y2:=q2.grown h2 (by simp;omega) (fun k hk=>by injection hk with hk;omega);exact((q3.drew).trans hb5).setCell (p:=⟨B,7,none⟩) e8 kv'
 have hh:Df O B F fix (Y5.setCell ⟨B,7,none⟩ kv') (l++[y])∧∀g∈F,(Y5.setCell ⟨B,7,none⟩ kv').heap[g]? =W.heap[g]? :=by
  refine oV (w':=Y5.setCell ⟨B,7,none⟩ kv') (y:=y) (kv':=kv') e1 e5 e6 e7 e8 e9 e10 hlt (cset kv') ?_ ?_ hyok (by rw[hyk];exact hnew) ?_ (by rw[hyb];simp) (fun g hg=>?_) (fun g hg hgB hgM hgk=>(stS g hgB).trans (st5 g hg hgM hgk)) ?_
  ·have h3:Fa pkK Y5 M (Kl p (.pointer (some ⟨Y0.heap.size,0,none⟩)) (Hk l)):=h1.same (hg5.block M (by show M<Y2.heap.size;omega) (fun e=>m1 e.symm));have h4:=h3.same (w':=Y5.setCell ⟨B,7,none⟩ kv') (stS M (Ne.symm b1))
   have e:Hk (l++[y])=Kl p (.pointer (some ⟨Y0.heap.size,0,none⟩)) (Hk l):=by
    rw[sO p _ l hnew];unfold Hk;rw[List.map_append];subst hy;rfl
   rw[e];exact h4
  ·have h5:=Dj (w':=Y5.setCell ⟨B,7,none⟩ kv') ho5 fun g hg=>stS g (hkb g hg).1;refine⟨ks++[p],?_,?_⟩
   ·rw[List.map_append,List.map_cons,List.map_nil,hyk];exact hkp.append_right _
   ·rw[Bf,Be,Ba,List.flatMap_nil,List.append_nil,hkl];exact h5
  ·exact hfr.imp id fun⟨g,hg,hge⟩=>⟨g,hg,by have:Y2.drew.heap.size=Y2.heap.size:=rfl;omega⟩
  ·rw[hyb,List.mem_singleton]at hg;subst hg;exact⟨hW0,fun e=>(hkb _ e).2.2 rfl⟩
  ·have:(Y5.setCell ⟨B,7,none⟩ kv').heap.size=Y5.heap.size:=by simp
   omega
 obtain⟨r1,r2⟩:=hh;refine⟨A,c,hv,by rw[←hv];exact c7',A',c',Y5,by rw[←hv,hkv'];exact hrun,cz 7,by rw[←hv];exact c7,hg5,by rw[hkv',hy];exact r1,by rw[hkv'];exact⟨hbW,r2⟩⟩
theorem zS (O B:Nat) (F:List Nat) (fix:List Ah) (x y:Cl) (l:List SmB) (w:Ag) (hx:x.q≤255) (hy:y.q≤255) (h:Df O B F fix w l) (hl:l.length≤900000000):
  Ai Tryz.prog 173 #[.pointer (some ⟨B,0,none⟩),clK x,clK y] w (zD O B F fix (jA x y) l w):=by
 have HC:=Ae (fun w'=>Kc x y w' hx hy);have H:=Ae h;have HL:=Ae hl;obtain⟨K,hK⟩:=ey (jA x y);rw[hK];obtain⟨r,hr⟩:=ey (Fg x y);unfold jA at hK;rw[hr]at HC hK;obtain⟨x0,x1,x2⟩:=x;obtain⟨y0,y1,y2⟩:=y;have HK:=Ae hK;dsimp only at HC HK hx hy;unfold clK;dsimp only;have HB:=((Bx.start w).new #[Aa Ab x0,Aa Ab x1,Aa Ac x2] 123 rfl).new #[Aa Ab y0,Aa Ab y1,Aa Ac y2] 123 (N:=w.heap.size+1) (by simp);clear h hl hK hr hx hy;go_enter Tryz.func173,Tryz.ntmps173;go_upto_region 1 with fail;obtain⟨N,hN⟩:=ez w.heap.size;rw[←hN]at HB⊢;have HNN:=Ae hN;clear hN;obtain⟨P,hP⟩:=ey (N+1);rw[hP]at HB⊢;have n1:N≠P:=by omega
 have n2:P≠N:=by omega
 clear hP;obtain⟨⟨a0,a1,a2⟩,ax,ay,az⟩:=Ci (HB.blk 0 _ _ _ rfl);obtain⟨⟨b0,b1,b2⟩,bx,by',bz⟩:=Ci (HB.blk 1 _ _ _ rfl);go_wp2_with fail;refine(HC.out _).mono ?_;rintro e w2 ⟨rfl,hb⟩;have H2:=HB.call hb.b;clear HB a0 a1 a2 ax ay az b0 b1 b2 bx by' bz hb;obtain⟨⟨a0,a1,a2⟩,ax,ay,az⟩:=Ci (H2.blk 0 _ _ _ rfl);obtain⟨⟨b0,b1,b2⟩,bx,by',bz⟩:=Ci (H2.blk 1 _ _ _ rfl);go_upto_if 11 with fail;go_cut [12,13] (fun _ _ wx=>∃u v:Cl,Hid ((u,v)=K)∧Hid (Bx w [(N,#[Aa Ab u.x,Aa Ab u.y,Aa Ac (u.q:Int)],123),(P,#[Aa Ab v.x,Aa Ab v.y,Aa Ac (v.q:Int)],123)] wx))
 case first=>
  by_cases hr:0<r
  ·go_wp2_with fail;go_meet;exact⟨⟨y0,y1,y2⟩,⟨x0,x1,x2⟩,Ae (by rw[←HK.out,if_pos hr]),Ae ((((((H2.set 0 0 rfl (Aa Ab y0)).set 0 1 rfl (Aa Ab y1)).set 0 2 rfl (Aa Ac y2)).set 1 0 rfl (Aa Ab x0)).set 1 1 rfl (Aa Ab x1)).set 1 2 rfl (Aa Ac x2))⟩
  ·go_wp2_with fail;go_meet;exact⟨⟨x0,x1,x2⟩,⟨y0,y1,y2⟩,Ae (by rw[←HK.out,if_neg (by omega)]),Ae H2⟩
 case rest=>
  clear a0 a1 a2 ax ay az b0 b1 b2 bx by' bz H2;obtain⟨⟨u0,u1,u2⟩,⟨v0,v1,v2⟩,HKK,HB3⟩:=hcut;dsimp only at HB3;obtain⟨⟨a0,a1,a2⟩,-⟩:=Ci (HB3.out.blk 0 _ _ _ rfl);obtain⟨⟨b0,b1,b2⟩,-⟩:=Ci (HB3.out.blk 1 _ _ _ rfl);obtain⟨Q,hQ⟩:=ey wc.heap.size;have H4:=HB3.out.new #[Aa Ab u0,Aa Ab u1,Aa Ac u2,Aa Ab v0,Aa Ab v1,Aa Ac v2] 223 hQ;go_upto_region 4 with fail;obtain⟨W,hW⟩:=ez (wc.alloc (.cells #[Aa Ab u0,Aa Ab u1,Aa Ac u2,Aa Ab v0,Aa Ab v1,Aa Ac v2] 223));rw[←hW]at H4⊢;clear hW;clear hQ a0 a1 a2 b0 b1 b2 HB3;obtain⟨p,hp⟩:∃z:Cl×Cl,(⟨u0,u1,u2⟩,⟨v0,v1,v2⟩)=z:=⟨_,rfl⟩;have hpk:Value.agg #[Aa Ab u0,Aa Ab u1,Aa Ac u2,Aa Ab v0,Aa Ab v1,Aa Ac v2]=pkK p:=by rw[←hp];rfl
  obtain rfl:p=K:=hp.symm.trans HKK.out;have hB:=H.out.below H4.below;have HB:=Ae hB;obtain⟨M,kv,e1,e2,e3,e4,e5,e6,e7,e8,e9,e10⟩:=hB;obtain⟨m6,m7,mz,mset,-⟩:=Ge e1 e2;obtain⟨R,hR⟩:=ey ((Ht p (Hk l)).getD (.pointer none));have hlk:=fun W' (h:Fa pkK W' M (Hk l))=>Nv Td Tryz.underlying215 (et:=226) (z:= .pointer none) (fun w=>by kernel_rfl) h p false;rw[hR,←hpk]at hlk;simp only[Bool.false_eq_true,if_false]at hlk;obtain⟨⟨q0,q1,q2,q3,q4,q5⟩,-⟩:=Sq (H4.blk 2 _ _ _ rfl)
  obtain⟨S,hSd⟩:∃S:Ag→Prop,S=fun W'=>W'.cell? ⟨B,6,none⟩=some (.map (some M))∧(W'.cell? ⟨Q,0,none⟩=some (Aa Ab u0)∧W'.cell? ⟨Q,1,none⟩=some (Aa Ab u1)∧W'.cell? ⟨Q,2,none⟩=some (Aa Ac u2)∧W'.cell? ⟨Q,3,none⟩=some (Aa Ab v0)∧W'.cell? ⟨Q,4,none⟩=some (Aa Ab v1)∧W'.cell? ⟨Q,5,none⟩=some (Aa Ac v2))∧
   (Instr.lookup 215 (.map (some M)) (.agg #[Aa Ab u0,Aa Ab u1,Aa Ac u2,Aa Ab v0,Aa Ab v1,Aa Ac v2]) false).run Tryz.prog W'= .ok R W':=⟨_,rfl⟩
  have HSO:Hid (∀W',S W'→W'.cell? ⟨B,6,none⟩=some (.map (some M))∧(W'.cell? ⟨Q,0,none⟩=some (Aa Ab u0)∧W'.cell? ⟨Q,1,none⟩=some (Aa Ab u1)∧W'.cell? ⟨Q,2,none⟩=some (Aa Ac u2)∧W'.cell? ⟨Q,3,none⟩=some (Aa Ab v0)∧W'.cell? ⟨Q,4,none⟩=some (Aa Ab v1)∧W'.cell? ⟨Q,5,none⟩=some (Aa Ac v2))∧
   (Instr.lookup 215 (.map (some M)) (.agg #[Aa Ab u0,Aa Ab u1,Aa Ac u2,Aa Ab v0,Aa Ab v1,Aa Ac v2]) false).run Tryz.prog W'= .ok R W'):=Ae fun W' h=>by subst hSd;exact h
  have HSA:Hid (∀W',Below W.heap.size W W'→S W'):=Ae fun W' h=>by
   subst hSd;exact⟨Ce h m6,⟨Ce h q0,Ce h q1,Ce h q2,Ce h q3,Ce h q4,Ce h q5⟩,hlk W' (e3.below h e3.lt)⟩
  have HPK:=Ae hpk;clear hlk m6 m7 q0 q1 q2 q3 q4 q5 hSd hpk;have hget:=dY p l;refine Al (S:=S) (by kernel_rfl) (HSA.out _ (Below.refl _ _).drew) (fun hS=>?_);have hb:Below W.heap.size W W.drew:=(Below.refl _ _).drew;obtain⟨X0,hX0⟩:=ez W.drew;rw[←hX0]at hb hS⊢;clear hX0;refine Cf 0 ?_;refine Cf 1 ?_;refine Cf 2 ?_;refine Cf 3 ?_;refine Cf 4 ?_;refine Cf 5 ?_;rcases hget with⟨l1,x,l2,rfl,hxk,hg,hg1⟩|⟨hg1,hg⟩
  ·obtain rfl:x.ptr=R:=by rw[←hR,hg];rfl
   unfold SmB.ptr at HSO⊢;refine Cf 6 ?_;refine Ak (by kernel_rfl) ?_ _;go_wp2_with fail;refine Al (S:=S) (by kernel_rfl) (HSA.out _ hb.drew) (fun hS=>?_);have hb2:Below W.heap.size W X0.drew:=hb.drew;obtain⟨X1,hX1⟩:=ez X0.drew;rw[←hX1]at hb2 hS⊢;clear hX1;refine Cf 0 ?_;refine Cf 1 ?_;refine Cf 2 ?_;refine Cf 3 ?_;refine Cf 4 ?_;refine Cf 5 ?_;refine Cf 6 ?_;refine Ak (by kernel_rfl) ?_ _;go_wp2_with fail;go_ret;exact⟨l1,x,l2,rfl,hxk,.inl rfl,HB.out.below hb2,(H.out.frm H4.below).trans (HB.out.frm hb2)⟩
  ·obtain rfl:Value.pointer none=R:=by rw[←hR,hg];rfl
   refine Cf 6 ?_;refine Ak (by kernel_rfl) ?_ _;go_wp2_with fail;clear hS HSO HSA S;have H5:=H4.call hb;obtain⟨⟨q0,q1,q2,q3,q4,q5⟩,-⟩:=Sq (H5.blk 2 _ _ _ rfl);obtain⟨⟨a0,a1,a2⟩,-⟩:=Ci (H5.blk 0 _ _ _ rfl);obtain⟨⟨b0,b1,b2⟩,-⟩:=Ci (H5.blk 1 _ _ _ rfl);have hBl:=(Aq.1 e2).1;obtain⟨m6,-,-,-,-⟩:=Ge e1 (kept hb e2 hBl);have hMW:=e3.lt
   obtain⟨hMw,hBw,hkw⟩:M<w.heap.size∧B<w.heap.size∧∀g,kv.ownBlock=some g→g<w.heap.size:=by
    obtain⟨M9,kv9,g1,g2,g3,g4,-⟩:=H.out;obtain⟨n6,n7,-⟩:=Ge g1 (kept (H4.below) g2 (Aq.1 g2).1);obtain⟨m6,m7,-⟩:=Ge e1 e2;rw[n6]at m6;rw[n7]at m7;obtain rfl:M9=M:=by simpa using m6
    obtain rfl:kv9=kv:=by simpa using m7
    exact⟨g3.lt,(Aq.1 g2).1,fun g hg=>(g4.lt g hg).2⟩
   have hBM:B≠M:=by
    unfold Ct at e7;simp only[List.nodup_cons,Bh,not_or]at e7;exact e7.1.1
   have hNw:=H4.lo 0 _ _ _ rfl;have hPw:=H4.lo 1 _ _ _ rfl;have hQw:=H4.lo 2 _ _ _ rfl
   obtain⟨S,hSd⟩:∃S:Ag→Prop,S=fun W'=>W'.cell? ⟨B,6,none⟩=some (.map (some M))∧(W'.cell? ⟨Q,0,none⟩=some (Aa Ab u0)∧W'.cell? ⟨Q,1,none⟩=some (Aa Ab u1)∧W'.cell? ⟨Q,2,none⟩=some (Aa Ac u2)∧W'.cell? ⟨Q,3,none⟩=some (Aa Ab v0)∧W'.cell? ⟨Q,4,none⟩=some (Aa Ab v1)∧W'.cell? ⟨Q,5,none⟩=some (Aa Ac v2))∧
    (W'.cell? ⟨N,0,none⟩=some (Aa Ab u0)∧W'.cell? ⟨N,1,none⟩=some (Aa Ab u1)∧W'.cell? ⟨N,2,none⟩=some (Aa Ac u2))∧W'.cell? ⟨P,0,none⟩=some (Aa Ab v0)∧W'.cell? ⟨P,1,none⟩=some (Aa Ab v1)∧W'.cell? ⟨P,2,none⟩=some (Aa Ac v2):=⟨_,rfl⟩
   have HSO:Hid (∀W',S W'→W'.cell? ⟨B,6,none⟩=some (.map (some M))∧(W'.cell? ⟨Q,0,none⟩=some (Aa Ab u0)∧W'.cell? ⟨Q,1,none⟩=some (Aa Ab u1)∧W'.cell? ⟨Q,2,none⟩=some (Aa Ac u2)∧W'.cell? ⟨Q,3,none⟩=some (Aa Ab v0)∧W'.cell? ⟨Q,4,none⟩=some (Aa Ab v1)∧W'.cell? ⟨Q,5,none⟩=some (Aa Ac v2))∧
    (W'.cell? ⟨N,0,none⟩=some (Aa Ab u0)∧W'.cell? ⟨N,1,none⟩=some (Aa Ab u1)∧W'.cell? ⟨N,2,none⟩=some (Aa Ac u2))∧W'.cell? ⟨P,0,none⟩=some (Aa Ab v0)∧W'.cell? ⟨P,1,none⟩=some (Aa Ab v1)∧W'.cell? ⟨P,2,none⟩=some (Aa Ac v2)):=Ae fun W' h=>by subst hSd;exact h
   have HSA:Hid (∀W',(∀g,g<X0.heap.size→g≠M→W'.heap[g]? =X0.heap[g]?)→S W'):=Ae fun W' h=>by
    have hc:∀g j v,X0.cell? ⟨g,j,none⟩=some v→g<X0.heap.size→g≠M→W'.cell? ⟨g,j,none⟩=some v:=fun g j v hv h1 h2=>by
     unfold World.cell? at hv⊢;rw[h g h1 h2];exact hv
    have z1:=H5.lt 0 rfl;have z2:=H5.lt 1 rfl;have z3:=H5.lt 2 rfl;subst hSd;exact⟨hc _ _ _ m6 (by have:=hb.size;omega) hBM,⟨hc _ _ _ q0 z3 (by omega),hc _ _ _ q1 z3 (by omega),hc _ _ _ q2 z3 (by omega),hc _ _ _ q3 z3 (by omega),hc _ _ _ q4 z3 (by omega),hc _ _ _ q5 z3 (by omega)⟩,⟨hc _ _ _ a0 z1 (by omega),hc _ _ _ a1 z1 (by omega),hc _ _ _ a2 z1 (by omega)⟩,hc _ _ _ b0 z2 (by omega),hc _ _ _ b1 z2 (by omega),hc _ _ _ b2 z2 (by omega)⟩
   clear q0 q1 q2 q3 q4 q5 a0 a1 a2 b0 b1 b2 m6 hSd;refine Al (S:=S) (by kernel_rfl) (HSA.out _ fun _ _ _=>rfl) (fun hS=>?_);have hb2:Below W.heap.size W X0.drew:=hb.drew;have HSX:Hid (X0.drew.heap=X0.heap):=Ae rfl;obtain⟨Y0,hY0⟩:=ez X0.drew;rw[←hY0]at hb2 hS HSX⊢;clear hY0;refine Cf 0 ?_;refine Cf 1 ?_;refine Cf 2 ?_;refine Cf 3 ?_;refine Cf 4 ?_;refine Cf 5 ?_;refine Cf 6 ?_;refine Cf 7 ?_;refine rdy 8 (fun K hK=>?_);go_simp;have hM1:Fa pkK (Y0.alloc (.cells ((Sm.none p.1 p.2).cells Io Io Io) 149)) M (Hk l):=(e3.below hb2 e3.lt).below ((Below.refl Y0.heap.size Y0).alloc (Aj _) _) (Bm e3.lt hb2.size);obtain⟨Y2,hrun,hM2,hg2⟩:=rT Td Tryz.underlying215 hM1 p (.pointer (some ⟨Y0.heap.size,0,none⟩));obtain⟨A,c,hkv,k7,A',c',Y5,happ,z5,c5,hg5,hBn,hFn⟩:=vA e1 e2 e3 e4 e5 e6 e7 e8 e9 e10 HL.out hb2 hg1 hM2 hg2;have hcell:(Sm.none p.1 p.2).cells Io Io Io= #[Aa Ab u0,Aa Ab u1,Aa Ac u2,Aa Ab v0,Aa Ab v1,Aa Ac v2,Ad none 0 0,Ad none 0 0,Ad none 0 0]:=by rw[←hp];rfl
   rw[hcell]at hrun hg2;rw[←HPK.out]at hrun
   have hyz:∀g,g<X0.heap.size→g<(Y0.alloc (.cells #[Aa Ab u0,Aa Ab u1,Aa Ac u2,Aa Ab v0,Aa Ab v1,Aa Ac v2,Ad none 0 0,Ad none 0 0,Ad none 0 0] 149)).heap.size:=fun g hg=>by
    have:Y0.heap.size=X0.heap.size:=by rw[HSX.out]
    simp;omega
   have HS1:S (Y0.alloc (.cells #[Aa Ab u0,Aa Ab u1,Aa Ac u2,Aa Ab v0,Aa Ab v1,Aa Ac v2,Ad none 0 0,Ad none 0 0,Ad none 0 0] 149)):=HSA.out _ fun g hg _=>(Below.heap_alloc Y0 _ g (by rw[HSX.out];exact hg)).trans (by rw[HSX.out]);have HS2:Hid (S Y2):=Ae (HSA.out _ fun g hg hgM=>(hg2.block g (hyz g hg) (fun e=>hgM (by injection e))).trans ((Below.heap_alloc Y0 _ g (by rw[HSX.out];exact hg)).trans (by rw[HSX.out])));refine hK.out _ _ HS1 (fun hS=>?_);clear hK K HS1;obtain⟨Y1,hY1⟩:=ez (Y0.alloc (.cells #[Aa Ab u0,Aa Ab u1,Aa Ac u2,Aa Ab v0,Aa Ab v1,Aa Ac v2,Ad none 0 0,Ad none 0 0,Ad none 0 0] 149));rw[←hY1]at hS hrun hg2⊢;clear hY1;have HAP:=Ae happ;have HBN:=Ae hBn;have HFN:=Ae hFn;clear happ hBn hFn hM1 hcell;refine rdy 9 (fun K hK=>?_);go_simp;refine hK.out _ _ HS2.out (fun hS=>?_);clear hK K hrun;refine Ak (by kernel_rfl) ?_ _;go_wp2_with fail;obtain⟨-,⟨q0,q1,q2,q3,q4,q5⟩,-⟩:=HSO.out _ HS2.out;clear hS HSO HS2 HSA hyz;have hpkc:(pkC p).toArray= #[Aa Ab u0,Aa Ab u1,Aa Ac u2,Aa Ab v0,Aa Ab v1,Aa Ac v2]:=by rw[←hp];rfl
   obtain⟨S6,hSd⟩:∃S6:Ag→Prop,S6=fun W'=>W'.cell? ⟨Q,0,none⟩=some (Aa Ab u0)∧W'.cell? ⟨Q,1,none⟩=some (Aa Ab u1)∧W'.cell? ⟨Q,2,none⟩=some (Aa Ac u2)∧W'.cell? ⟨Q,3,none⟩=some (Aa Ab v0)∧W'.cell? ⟨Q,4,none⟩=some (Aa Ab v1)∧W'.cell? ⟨Q,5,none⟩=some (Aa Ac v2):=⟨_,rfl⟩;have HSO:Hid (∀W',S6 W'→W'.cell? ⟨Q,0,none⟩=some (Aa Ab u0)∧W'.cell? ⟨Q,1,none⟩=some (Aa Ab u1)∧W'.cell? ⟨Q,2,none⟩=some (Aa Ac u2)∧W'.cell? ⟨Q,3,none⟩=some (Aa Ab v0)∧W'.cell? ⟨Q,4,none⟩=some (Aa Ab v1)∧W'.cell? ⟨Q,5,none⟩=some (Aa Ac v2)):=Ae fun W' h=>by subst hSd;exact h
   have HSA:Hid (∀W',W'.heap[Q]? =Y2.heap[Q]? →S6 W'):=Ae fun W' h=>by
    have hc:∀j v,Y2.cell? ⟨Q,j,none⟩=some v→W'.cell? ⟨Q,j,none⟩=some v:=fun j v hv=>by
     unfold World.cell? at hv⊢;rw[h];exact hv
    subst hSd;exact⟨hc _ _ q0,hc _ _ q1,hc _ _ q2,hc _ _ q3,hc _ _ q4,hc _ _ q5⟩
   have hQ2:Q<Y2.heap.size:=by
    have hz:(Y2.cell? ⟨Q,0,none⟩).isSome=true:=by rw[q0];rfl
    unfold World.cell? at hz
    cases hh:Y2.heap[Q]? with
    |none=>rw[hh]at hz;cases hz
    |some o=>exact(Aq.1 hh).1
   clear q0 q1 q2 q3 q4 q5 hSd;refine Al (S:=S6) (by kernel_rfl) (HSA.out _ rfl) (fun hS=>?_);have HS4:Hid (S6 (Y2.drew.alloc (.cells #[Aa Ab u0,Aa Ab u1,Aa Ac u2,Aa Ab v0,Aa Ab v1,Aa Ac v2] 223))):=Ae (HSA.out _ ((Below.heap_alloc Y2.drew _ Q hQ2).trans rfl));have hS5:Y5.heap[Q]? =Y2.heap[Q]? :=(hg5.block Q hQ2 (fun e=>by have:=hkw Q e.symm;omega)).trans rfl;have HS5:Hid (S6 Y5):=Ae (HSA.out _ hS5);have HS6:Hid (S6 (Y5.setCell ⟨B,7,none⟩ (Ad A' (l.length+1) c'))):=Ae (HSA.out _ ((Below.heap_setCell Y5 ⟨B,7,none⟩ _ Q (by show Q≠B;omega)).trans hS5));have happ:=HAP.out;rw[hpkc]at happ;have hk7:Y2.drew.cell? ⟨B,7,none⟩=some (Ad A l.length c):=k7;have hB7:B<Y2.heap.size:=by have:=hb2.size;have:Q<Y2.heap.size:=hQ2;omega
   obtain⟨Z,hZ⟩:=ez Y2.drew;rw[←hZ]at hS HS4 happ hk7⊢;clear hZ;have hk8:(Z.alloc (.cells #[Aa Ab u0,Aa Ab u1,Aa Ac u2,Aa Ab v0,Aa Ab v1,Aa Ac v2] 223)).cell? ⟨B,7,none⟩=some (Ad A l.length c):=Ce ((Below.refl Z.heap.size Z).alloc (Aj _) _) hk7;have HAP:=Ae happ;have hQ5:=Ae hS5;clear happ k7 hS5 hg5 hg2 hM2;obtain⟨M7,kv7,f1,f2,f3,-⟩:=HBN.out;obtain⟨f6,-⟩:=Ge f1 f2
   have hmp:Hk (l++[⟨Sm.none p.1 p.2,Y0.heap.size,Io,Io,Io⟩])=Kl p (.pointer (some ⟨Y0.heap.size,0,none⟩)) (Hk l):=by
    rw[sO p _ l hg1];unfold Hk;rw[List.map_append];rfl
   have hlk:=Nv Td Tryz.underlying215 (et:=226) (z:= .pointer none) (fun w=>by kernel_rfl) (f3.same (w':=(Y5.setCell ⟨B,7,none⟩ (Ad A' (l.length+1) c')).drew) rfl) p false;rw[hmp,Ty,if_pos rfl,←HPK.out]at hlk;simp only[Bool.false_eq_true,if_false,Option.getD_some]at hlk
   obtain⟨S7,hS7d⟩:∃S7:Ag→Prop,S7=fun W'=>W'.cell? ⟨B,6,none⟩=some (.map (some M7))∧S6 W'∧
    (Instr.lookup 215 (.map (some M7)) (.agg #[Aa Ab u0,Aa Ab u1,Aa Ac u2,Aa Ab v0,Aa Ab v1,Aa Ac v2]) false).run Tryz.prog W'= .ok (.pointer (some ⟨Y0.heap.size,0,none⟩)) W':=⟨_,rfl⟩
   have HSO7:Hid (∀W',S7 W'→W'.cell? ⟨B,6,none⟩=some (.map (some M7))∧(W'.cell? ⟨Q,0,none⟩=some (Aa Ab u0)∧W'.cell? ⟨Q,1,none⟩=some (Aa Ab u1)∧W'.cell? ⟨Q,2,none⟩=some (Aa Ac u2)∧W'.cell? ⟨Q,3,none⟩=some (Aa Ab v0)∧W'.cell? ⟨Q,4,none⟩=some (Aa Ab v1)∧W'.cell? ⟨Q,5,none⟩=some (Aa Ac v2))∧
    (Instr.lookup 215 (.map (some M7)) (.agg #[Aa Ab u0,Aa Ab u1,Aa Ac u2,Aa Ab v0,Aa Ab v1,Aa Ac v2]) false).run Tryz.prog W'= .ok (.pointer (some ⟨Y0.heap.size,0,none⟩)) W'):=Ae fun W' h=>by subst hS7d;exact⟨h.1,HSO.out _ h.2.1,h.2.2⟩
   have HS7:Hid (S7 (Y5.setCell ⟨B,7,none⟩ (Ad A' (l.length+1) c')).drew):=Ae (by
    subst hS7d;exact⟨f6,HSA.out _ ((Below.heap_setCell Y5 ⟨B,7,none⟩ _ Q (by show Q≠B;omega)).trans hQ5.out),hlk⟩)
   clear hS7d f1 f2 f3 f6 hmp hlk;refine Cf 0 ?_;refine Cf 1 ?_;refine Cf 2 ?_;refine Cf 3 ?_;refine Cf 5 ?_;refine Am (rs:=[4,6]) (by kernel_rfl) (by simp) (An rfl (fun K hK=>?_) (An rfl (fun K hK=>?_) Ao))
   ·clear hk8;go_simp;refine hK.out _ _ hS (fun hS=>?_);clear hK K;refine rdy 6 (fun K hK=>?_);go_simp;refine hK.out _ _ HS4.out (fun hS=>?_);clear hK K;refine rdy 7 (fun K hK=>?_);refine Di (by simp[Region.wanted]) (.tmp 37) (.tmp 39) 216 rfl _ _ (by simp[Act.eval]) (by simp[Act.eval]) _ _ HAP.out ?_;refine hK.out _ _ HS5.out (fun hS=>?_);clear hK K;refine Cf 8 ?_;refine Cf 9 ?_;refine rdy 10 (fun K hK=>?_);go_simp;refine hK.out _ _ HS6.out (fun hS=>?_);clear hK K hS;refine Ak (by kernel_rfl) ?_ _;go_wp2_with fail;obtain⟨Z6,hZ6⟩:=ez (Y5.setCell ⟨B,7,none⟩ (Ad A' (l.length+1) c'));rw[←hZ6]at HBN HFN HS6 HS7⊢;clear hZ6;clear HS6 HS5 HS4 HAP;refine Al (S:=S7) (by kernel_rfl) (HS7.out) (fun hS=>?_);have HBN:=Ae (HBN.out.below (Below.refl Z6.heap.size Z6).drew);have HFN:=Ae (HFN.out.trans (⟨(Below.refl O Z6).drew,fun _ _=>rfl⟩:Frm O F Z6 Z6.drew));obtain⟨Z7,hZ7⟩:=ez Z6.drew;rw[←hZ7]at HBN HFN hS⊢;clear hZ7;have HSO:=HSO7;refine Cf 0 ?_;refine Cf 1 ?_;refine Cf 2 ?_;refine Cf 3 ?_;refine Cf 4 ?_;refine Cf 5 ?_;refine Cf 6 ?_;refine Ak (by kernel_rfl) ?_ _;go_wp2_with fail;go_ret;exact⟨l,_,[],rfl,rfl,.inr ⟨rfl,rfl,hg1,rfl⟩,HBN.out,(H.out.frm H4.below).trans HFN.out⟩
   ·go_simp;refine hK.out _ _ HS4.out (fun hS=>?_);clear hK K;refine rdy 4 (fun K hK=>?_);go_simp;refine hK.out _ _ HS4.out (fun hS=>?_);clear hK K;refine rdy 7 (fun K hK=>?_);refine Di (by simp[Region.wanted]) (.tmp 37) (.tmp 39) 216 rfl _ _ (by simp[Act.eval]) (by simp[Act.eval]) _ _ HAP.out ?_;refine hK.out _ _ HS5.out (fun hS=>?_);clear hK K;refine Cf 8 ?_;refine Cf 9 ?_;refine rdy 10 (fun K hK=>?_);go_simp;refine hK.out _ _ HS6.out (fun hS=>?_);clear hK K hS;refine Ak (by kernel_rfl) ?_ _;go_wp2_with fail;obtain⟨Z6,hZ6⟩:=ez (Y5.setCell ⟨B,7,none⟩ (Ad A' (l.length+1) c'));rw[←hZ6]at HBN HFN HS6 HS7⊢;clear hZ6;clear HS6 HS5 HS4 HAP;refine Al (S:=S7) (by kernel_rfl) (HS7.out) (fun hS=>?_);have HBN:=Ae (HBN.out.below (Below.refl Z6.heap.size Z6).drew);have HFN:=Ae (HFN.out.trans (⟨(Below.refl O Z6).drew,fun _ _=>rfl⟩:Frm O F Z6 Z6.drew));obtain⟨Z7,hZ7⟩:=ez Z6.drew;rw[←hZ7]at HBN HFN hS⊢;clear hZ7;have HSO:=HSO7;refine Cf 0 ?_;refine Cf 1 ?_;refine Cf 2 ?_;refine Cf 3 ?_;refine Cf 4 ?_;refine Cf 5 ?_;refine Cf 6 ?_;refine Ak (by kernel_rfl) ?_ _;go_wp2_with fail;go_ret;exact⟨l,_,[],rfl,rfl,.inr ⟨rfl,rfl,hg1,rfl⟩,HBN.out,(H.out.frm H4.below).trans HFN.out⟩
end Go.Proofs.YteoffhpfcgffcaaGreatDoor
