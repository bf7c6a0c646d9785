import Derived.Test.YteoffhpfcgffcaaGreatDoorQMru
import Derived.Test.YteoffhpfcgffcaaGreatDoorQMbs
import Derived.Test.YteoffhpfcgffcaaGreatDoorQRsC
import Derived.Test.YteoffhpfcgffcaaGreatDoorQSid
import Derived.Test.YteoffhpfcgffcaaGreatDoorQOvi
import Derived.Lib.SliceRun
open Go renaming Calls→Ai,Value→Ah,World→Ag,bodyPost_ret→Af,cell_of_row→Bs,heap_alloc_new→Bt,wpAnyH_done→Ak,wp_region_held_drew→Al
open Go.IntKind renaming i64→Ab,u8→Ac
open Go.IntWalk renaming wrap64_in→Bw
open Go.Lib renaming hid→Ae
open Go.Value renaming int→Aa,slice→Ad
open List renaming append_assoc→Bg,flatMap_append→Bf,getElem?_eq_getElem→Ar,getElem?_eq_some_iff→As,getElem_cons_succ→Bz,getElem_cons_zero→By,getElem_mem→Au,getElem_toArray→Ca,length_append→Be,length_map→Bk,length_take→Bj,mem_cons→Bh,mem_iff_getElem→Ay,replicate→Aw,setIfInBounds_toArray→Cd,set_cons_succ→Cc,set_cons_zero→Cb,take_of_length_le→Bc,take_succ_eq_append_getElem→Ax
open Nat renaming le_refl→Aj,le_trans→Bo,zero_add→Bp
set_option maxHeartbeats 32000000
set_option maxRecDepth 100000
namespace Go.Proofs.YteoffhpfcgffcaaGreatDoor
open Go.RowKit
def Ko (ss:List St) (ts:List Sn):List Int:=(ss.zip ts).map fun p=>Nj p.1.box p.2
theorem No {m:Mh}:∀{l:List Sn} {s:St},(Em m l s).2=0→(Em m l s).1.length=l.length+1
 |[],s,_=>rfl
 |t::r,s,h=>by
  cases hd:(Hd m s t).2 with
  |none=>
   rw[Ju hd]at h;exact absurd h (gQ hd)
  |some s'=>
   rw[Jv hd]at h⊢;dsimp only at h⊢;rw[List.length_cons,No h,List.length_cons]
theorem Pw {ss:List St} {ts:List Sn} (h:ss.length=ts.length+1):(Ko ss ts).length=ts.length:=by
 unfold Ko;rw[Bk,List.length_zip];omega
theorem Xd {ss:List St} {ts:List Sn} {k:Nat} {s:St} {n:Sn} (h1:ss[k]? =some s) (h2:ts[k]? =some n):(Ko ss ts)[k]? =some (Nj s.box n):=by
 unfold Ko;rw[List.getElem?_map,(List.getElem?_zip_eq_some (z:=(s,n))).2 ⟨h1,h2⟩];rfl
def Mr (R:List St×Int) (ts:List Sn) (n:Nat) (w:Ag) (e:Ending) (w':Ag):Prop:=Below w.heap.size w w'∧
 ((R.2≠0∧e= .returned (.tuple #[Ad none 0 0,Aa Ab R.2]))∨
  (R.2=0∧∃g,e= .returned (.tuple #[Ad (some ⟨g,0,none⟩) n n,Aa Ab 0])∧w.heap.size≤g∧w'.heap[g]? =some (Obj.cells (Dp (Ko R.1 ts)).toArray 3 (0,0))))
def Nf (L:List Int) (n k:Nat):List Int:=L.take k++Aw (n-k) 0
theorem Rq {L:List Int} {n k:Nat} (hl:L.length=n) (hk:k<n) {x:Int} (hx:L[k]? =some x):(Dp (Nf L n k)).toArray.setIfInBounds k (Aa Ab x)=(Dp (Nf L n (k+1))).toArray:=by
 have hk2:k<L.length:=by omega
 have e1:(Nf L n k).set k x=Nf L n (k+1):=by
  unfold Nf;have e:(L.take k).length=k:=by simp;omega
  rw[Ar hk2]at hx;injection hx with hx;rw[List.set_append_right _ _ (by omega),e,Nat.sub_self,show n-k=(n-(k+1))+1 by omega,List.replicate_succ,Cb,Ax hk2,Bg,hx];rfl
 rw[←e1];simp[Dp,List.map_set]
theorem sK {L:List Int} {n k:Nat} (hl:L.length=n) (hk:k<n):(Dp (Nf L n k)).toArray[k]? =some (Aa Ab 0):=by
 have e:(Nf L n k)[k]? =some 0:=by
  unfold Nf;have e:(L.take k).length=k:=by simp;omega
  rw[List.getElem?_append_right (by omega),e,Nat.sub_self,show n-k=(n-(k+1))+1 by omega,List.replicate_succ];rfl
 simp[Dp,e]
theorem xD (k:Nat) (hk:k≤1024) (W:Ag):(Instr.makeSlice 61 (Aa Ab k) (Aa Ab k)).run Tryz.prog W= .ok (Ad (some ⟨W.heap.size,0,none⟩) k k) (W.alloc (.cells (Dp (Aw k 0)).toArray 3)):=by
 have h:=Mz k hk W;have e:Dp (Aw k 0)=Cz (Aw k 0):=by simp[Dp,Cz]
 rw[e];exact h
def tiL (ma mb mc:Int) (sv:Ah) (s:St) (pv tv:Ah) (N P GO:Nat) (L:List Int) (n k:Nat):List (Nat×Array Ah×TypeId):=
 [(N,#[Aa Ab ma,Aa Ab mb,Aa Ab mc,sv],24),(P,#[Aa Ab s.a,Aa Ab s.b,pv,Aa Ac s.root.t,Aa Ab s.root.x,Aa Ab s.root.y,tv],43),(GO,(Dp (Nf L n k)).toArray,3)]
theorem Rw (m:Mh) (s:St) (hm:m.ok=true) (mA:Option Addr) (mn mc:Nat) (hmn:mn=m.st.length) (pA:Option Addr) (pc:Nat) (A:Option Addr) (cc:Nat) (w:Ag) (hrd:Rd w mA 3 mn (m.st.flatMap snC)) (hs:Gs s) (hA:AOk pA s.cr.length pc) (hpr:Rd w pA 3 s.cr.length (crs s.cr)) (hst:Cs w A s.l) (hQ:Qf w) (hT:Tn w):
  Ai Tryz.prog 13 #[.agg #[Aa Ab m.a,Aa Ab m.b,Aa Ab m.c,Ad mA mn mc],.agg #[Aa Ab s.a,Aa Ab s.b,Ad pA s.cr.length pc,Aa Ac s.root.t,Aa Ab s.root.x,Aa Ab s.root.y,Ad A s.l.length cc]] w
   (Mr (Em m m.st s) m.st mn w):=by
 have HAL:=Ae (fun(w':Ag) (hb:Below w.heap.size w w')=>iE m s hm mA mn mc hmn pA pc A cc w' (hrd.below hb) hs hA (hpr.below hb) (hst.below hb) (hQ.below hb) (hT.below hb));have HIN:=Ae (fun(w':Ag) (hb:Below w.heap.size w w')=>(⟨⟨pA,pc,A,cc,rfl,hA,hpr.below hb,hst.below hb⟩⟩:Mq w' [Aa Ab s.a,Aa Ab s.b,Ad pA s.cr.length pc,Aa Ac s.root.t,Aa Ab s.root.x,Aa Ab s.root.y,Ad A s.l.length cc] s));have HRD:=Ae (fun(w':Ag) (hb:Below w.heap.size w w') (k:Nat) (hk:k<m.st.length)=>jM (hrd.below hb) k hk);have HQT:=Ae (fun(w':Ag) (hb:Below w.heap.size w w')=>show Qf w'∧Tn w' from⟨hQ.below hb,hT.below hb⟩);have HGS:=Ae hs;have HMN:=Ae hmn;have hmo:=Mh.ok_iff.1 hm;have HST:=Ae hmo.2.2;have HFU:=Ae (fun h=>No (m:=m) (l:=m.st) (s:=s) h);have H:=((Bx.start w).new #[Aa Ab m.a,Aa Ab m.b,Aa Ab m.c,Ad mA mn mc] 24 rfl).new #[Aa Ab s.a,Aa Ab s.b,Ad pA s.cr.length pc,Aa Ac s.root.t,Aa Ab s.root.x,Aa Ab s.root.y,Ad A s.l.length cc] 43 (N:=w.heap.size+1) (by simp);unfold Tf at HAL;obtain⟨⟨ss,er⟩,hR⟩:=ey (Em m m.st s);rw[hR]at HAL HFU⊢;dsimp only at HAL HFU;obtain⟨n,hn⟩:=ey s.l.length;obtain⟨pn,hpn⟩:=ey s.cr.length;rw[hn,hpn]at HAL HIN H;rw[hn,hpn];have hm16:mn≤16:=by have:=hmo.1;omega
 clear hm hmn hrd hs hA hpr hst hQ hT hmo hn hpn hR;go_enter Tryz.func13,Tryz.ntmps13;go_upto_region 1 with fail;obtain⟨N,hN⟩:=ez w.heap.size;rw[←hN]at H⊢;have HNN:=Ae hN;clear hN;obtain⟨P,hP⟩:=ey (N+1);rw[hP]at H⊢;clear hP;obtain⟨W1,hW1⟩:=ez ((w.alloc (.cells #[Aa Ab m.a,Aa Ab m.b,Aa Ab m.c,Ad mA mn mc] 24)).alloc (.cells #[Aa Ab s.a,Aa Ab s.b,Ad pA pn pc,Aa Ac s.root.t,Aa Ab s.root.x,Aa Ab s.root.y,Ad A n cc] 43));rw[←hW1]at H⊢;clear hW1;obtain⟨⟨m0,m1,m2,m3⟩,-⟩:=Co (H.blk 0 _ _ _ rfl);obtain⟨a0,a1,a2,a3,a4,a5,a6⟩:=De (H.blk 1 _ _ _ rfl);go_wp2_with fail;refine(HAL.out _ H.below).mono ?_;rintro ee w2 ⟨A2,c2,zt,rfl,hss,hI,hb⟩;have H2:=H.call hb;clear m0 m1 m2 m3 a0 a1 a2 a3 a4 a5 a6 hb H HAL;by_cases her:er=0
 ·subst her;have hfu:=HFU.out rfl
  have hzl:zt.length=mn:=by
   rw[←hss]at hfu;simp at hfu;have:=HMN.out;omega
  have HSS:=Ae hss;have HAI:=Ae (fun(w':Ag) (hb:Below w2.heap.size w2 w')=>hI.below hb);obtain⟨g,rfl,-,-,hgW,hcell⟩:=hI.at (s:=s) (c0:=[Aa Ab s.a,Aa Ab s.b,Ad pA pn pc,Aa Ac s.root.t,Aa Ab s.root.x,Aa Ab s.root.y,Ad A n cc]) rfl;have HCE:=Ae (fun(w':Ag) (hb:Below w2.heap.size w2 w') (i:Nat) (hi:i<((([Value.int .i64 s.a,Aa Ab s.b,Ad pA pn pc,Aa Ac s.root.t,Aa Ab s.root.x,Aa Ab s.root.y,Ad A n cc],s):SzT)::zt).length) (f:Nat) (v:Ah) (hf:f<7) (hv:((((([Value.int .i64 s.a,Aa Ab s.b,Ad pA pn pc,Aa Ac s.root.t,Aa Ab s.root.x,Aa Ab s.root.y,Ad A n cc],s):SzT)::zt)[i]).1)[f]? =some v)=>Ce hb (hcell i hi f v hf hv));have hTL:=Pw (ss:=ss) (ts:=m.st) hfu;have HTA:=Ae (fun(k:Nat) (s1:St) (n1:Sn) (h1:ss[k]? =some s1) (h2:m.st[k]? =some n1)=>Xd h1 h2);obtain⟨L,hL⟩:=ey (Ko ss m.st);rw[hL]at hTL HTA;have hLn:L.length=mn:=by have:=HMN.out;omega
  have HLn:=Ae hLn;have HL:=Ae hL;have HZL:=Ae hzl;obtain⟨⟨m0,m1,m2,m3⟩,-⟩:=Co (H2.blk 0 _ _ _ rfl);obtain⟨GO,hGO⟩:=ey w2.heap.size;have hmk:=xD mn (by omega) w2;have H3:=H2.new (Dp (Aw mn 0)).toArray 3 hGO;have hb3:Below w2.heap.size w2 (w2.alloc (.cells (Dp (Aw mn 0)).toArray 3)):=(Below.refl _ _).alloc (Aj _) _;have HGO:=Ae (Nat.le_of_eq hGO);rw[hGO]at hmk;rw[hzl];clear hss hI hcell H2 hfu hTL hLn hL hzl;go_upto_region 5 with fail
  try rw[hGO]
  obtain⟨W3,hW3⟩:=ez (w2.alloc (.cells (Dp (Aw mn 0)).toArray 3));rw[←hW3]at H3 hb3⊢;clear hW3;clear m0 m1 m2 m3 hmk hGO;have HI0:Hid (Bx w (tiL m.a m.b m.c (Ad mA mn mc) s (Ad pA pn pc) (Ad A n cc) N P GO L mn 0) W3∧Below w2.heap.size w2 W3):=Ae ⟨H3,hb3⟩;obtain⟨⟨m0,m1,m2,m3⟩,-⟩:=Co (H3.blk 0 _ _ _ rfl);clear H3 hb3;go_upto_region 6 with fail;clear m0 m1 m2 m3;go_wp2_with fail
  go_loopw [30] (fun s30 wr=>∃k:Nat,k≤mn∧s30= Aa Ab k∧Hid (Bx w (tiL m.a m.b m.c (Ad mA mn mc) s (Ad pA pn pc) (Ad A n cc) N P GO L mn k) wr∧Below w2.heap.size w2 wr)) (fun s30 _=>mn-(intOf s30).toNat)
  case atStart=>exact⟨0,by omega,rfl,HI0⟩
  case round=>
   obtain⟨k,hk,rfl,HZ⟩:=hrel;clear HI0;obtain⟨hB,hbw⟩:=HZ.out;unfold tiL at hB;by_cases hlt:k<mn
   ·have q0:(k:Int)<(mn:Int):=by omega
    have q7:(k:Int)<(mn:Int)+1:=by omega
    have hkm:k<m.st.length:=by have:=HMN.out;omega
    obtain⟨kb,ko,hmA,-,t0,t1,t2⟩:=HRD.out wr hB.below k hkm;have htk:=(HST.out m.st[k] (Au hkm)).1
    have hkZ:k<((([Value.int .i64 s.a,Aa Ab s.b,Ad pA pn pc,Aa Ac s.root.t,Aa Ab s.root.x,Aa Ab s.root.y,Ad A n cc],s):SzT)::zt).length:=by
     rw[List.length_cons,HZL.out];omega
    obtain⟨-,hgk,hik⟩:=(HAI.out wr hbw).get HGS.out (HIN.out wr hB.below) rfl _ (Au hkZ);have hce:=fun f v hf hv=>HCE.out wr hbw k hkZ f v hf hv
    have hsk:ss[k]? =some (((([Value.int .i64 s.a,Aa Ab s.b,Ad pA pn pc,Aa Ac s.root.t,Aa Ab s.root.x,Aa Ab s.root.y,Ad A n cc],s):SzT)::zt)[k]).2:=by
     rw[←HSS.out];show(((([Value.int .i64 s.a,Aa Ab s.b,Ad pA pn pc,Aa Ac s.root.t,Aa Ab s.root.x,Aa Ab s.root.y,Ad A n cc],s):SzT)::zt).map (·.2))[k]? =_;rw[List.getElem?_map,Ar hkZ];rfl
    have hta:=HTA.out k _ _ hsk (Ar hkm);obtain⟨⟨cl,sk⟩,hZk⟩:=ey (((([Value.int .i64 s.a,Aa Ab s.b,Ad pA pn pc,Aa Ac s.root.t,Aa Ab s.root.x,Aa Ab s.root.y,Ad A n cc],s):SzT)::zt)[k]);rw[hZk]at hgk hik hta;simp only[hZk]at hce;dsimp only at hgk hik hta;obtain⟨pA2,pc2,A2,cc2,hcs,-,hpr2,hst2⟩:=hik.held;have r0:=hce 0 _ (by omega) (by rw[hcs];rfl);have r1:=hce 1 _ (by omega) (by rw[hcs];rfl);have r2:=hce 2 _ (by omega) (by rw[hcs];rfl);have r3:=hce 3 _ (by omega) (by rw[hcs];rfl);have r4:=hce 4 _ (by omega) (by rw[hcs];rfl);have r5:=hce 5 _ (by omega) (by rw[hcs];rfl);have r6:=hce 6 _ (by omega) (by rw[hcs];rfl);rw[Nat.add_zero]at r0;have har:=fun(w':Ag) (hb:Below wr.heap.size wr w')=>Lz sk pA2 pc2 A2 cc2 w' hgk (hpr2.below hb) (hst2.below hb) (HQT.out w' (hB.below.trans (hb.mono hB.below.size))).1 (HQT.out w' (hB.below.trans (hb.mono hB.below.size))).2
    have hbd:sk.box.bd 5000:=Nq fun c hc=>by
     obtain⟨x,hx,rfl⟩:=List.mem_map.1 hc;exact(hgk.at x hx).1
    obtain⟨⟨l,r,d,u⟩,hbx⟩:=ey sk.box;rw[hbx]at har hta hbd;unfold bbV at har;dsimp only at har;unfold Bb.bd at hbd;dsimp only at hbd;have e1:wrap64 (r-l)=r-l:=Bw _ (by omega);have e2:wrap64 (u-d)=u-d:=Bw _ (by omega);have e3:wrap64 (r-l+(u-d))=r-l+(u-d):=Bw _ (by omega);have e4:wrap64 (r-l+(u-d)+1)=r-l+(u-d)+1:=Bw _ (by omega);have e5:wrap64 (r-l+1)=r-l+1:=Bw _ (by omega);have e6:wrap64 (u-d+1)=u-d+1:=Bw _ (by omega);obtain⟨⟨tk,tp,tv⟩,ht⟩:=ey (m.st[k]);rw[ht]at t0 t1 t2 hta htk;dsimp only at t0 t1 t2 hta htk;have HTA2:=Ae hta;have HAR:=Ae har;have e7:(tk:Int).tmod 2=((tk%2:Nat):Int):=rfl;obtain⟨X,hX⟩:=ey wr.heap.size;have H5:=hB.new #[Aa Ac tk,Aa Ab tp,.bool tv] 32 hX;have hb5:Below wr.heap.size wr (wr.alloc (.cells #[Aa Ac tk,Aa Ab tp,.bool tv] 32)):=(Below.refl _ _).alloc (Aj _) _;have hrr:∀f v,wr.cell? ⟨g,k*7+f,none⟩=some v→(wr.alloc (.cells #[Aa Ac tk,Aa Ab tp,.bool tv] 32)).cell? ⟨g,k*7+f,none⟩=some v:=fun f v h=>Ce hb5 h;have hbw5:=hbw.trans (hb5.mono hbw.size);subst hmA;clear hsk hZk hgk hik hce hcs hpr2 hst2 hta har hbx ht hB hbw HZ hkZ hkm hbd;go_upto_region 8 with fail
    try rw[hX]
    obtain⟨W5,hW5⟩:=ez (wr.alloc (.cells #[Aa Ac tk,Aa Ab tp,.bool tv] 32));rw[←hW5]at H5 hb5 hrr hbw5⊢;clear hW5;have p0:=hrr 0 _ (by rw[Nat.add_zero];exact r0);have p1:=hrr 1 _ r1;have p2:=hrr 2 _ r2;have p3:=hrr 3 _ r3;have p4:=hrr 4 _ r4;have p5:=hrr 5 _ r5;have p6:=hrr 6 _ r6;rw[Nat.add_zero]at p0;clear r0 r1 r2 r3 r4 r5 r6 t0 t1 t2 hX hrr;go_wp2_with fail;refine(HAR.out _ hb5).mono ?_;rintro ee w6 ⟨rfl,hb⟩;have H6:=H5.call hb;have hbw6:=hbw5.trans (hb.mono hbw5.size);clear p0 p1 p2 p3 p4 p5 p6 hb H5 hb5 hbw5 HAR;obtain⟨B,hB⟩:=ey w6.heap.size;have H7:=H6.new #[Aa Ab l,Aa Ab r,Aa Ab d,Aa Ab u] 94 hB;have hbw7:=hbw6.alloc hbw6.size (.cells #[Aa Ab l,Aa Ab r,Aa Ab d,Aa Ab u] 94);clear H6 hbw6;go_upto_region 9 with fail
    try rw[hB]
    obtain⟨W7,hW7⟩:=ez (w6.alloc (.cells #[Aa Ab l,Aa Ab r,Aa Ab d,Aa Ab u] 94));rw[←hW7]at H7 hbw7⊢;clear hW7;clear hB;obtain⟨⟨b0,b1,b2,b3⟩,-⟩:=Co (H7.blk 4 _ _ _ rfl)
    go_quiet (fail)
    have H8:=H7.drewN nq;have hbw8:=Cp hbw7 nq;obtain⟨W8,hW8⟩:=ez (W7.drewN nq);rw[←hW8]at H8 hbw8⊢;clear hW8;clear H7 hbw7 b0 b1 b2 b3;obtain⟨⟨c0,-,-⟩,-⟩:=Ci (H8.blk 3 _ _ _ rfl);have hLn:=HLn.out
    have g0:W8.cell? ⟨GO,k,none⟩=some (Aa Ab 0):=by
     rw[Bs _ _ _ _ _ (0,0) (H8.blk 2 _ _ _ rfl)];exact sK hLn hlt
    have z0:=Db (H8.blk 2 _ _ _ rfl) k;have hGW:=HGO.out;by_cases h3:3<tk
    ·have q9:(3:Int)<(tk:Int):=by omega
     have hta:=HTA2.out;unfold Nj at hta;rw[if_pos h3]at hta;have H9:=H8.set 2 k rfl (Aa Ab (r-l+(u-d)+1));have hbw9:=hbw8.setCell (p:=⟨GO,k,none⟩) hGW (Aa Ab (r-l+(u-d)+1));have HR:Hid (Bx w (tiL m.a m.b m.c (Ad (some ⟨kb,ko,none⟩) mn mc) s (Ad pA pn pc) (Ad A n cc) N P GO L mn (k+1)) (W8.setCell ⟨GO,k,none⟩ (Aa Ab (r-l+(u-d)+1)))∧Below w2.heap.size w2 (W8.setCell ⟨GO,k,none⟩ (Aa Ab (r-l+(u-d)+1)))):=Ae ⟨by unfold tiL;rw[←Rq hLn hlt hta];exact H9.upto 3,hbw9⟩;clear H9 hbw9 H8 hbw8 hta hLn hGW HTA2;go_wp2_with fail;exact⟨⟨k+1,by omega,by go_num,HR⟩,by simp[intOf];omega⟩
    ·have q9:¬(3:Int)<(tk:Int):=by omega
     by_cases h2:tk%2=1
     ·have q10:(((tk%2:Nat):Int)==1)=true:=by rw[h2];rfl
      have hta:=HTA2.out;unfold Nj at hta;rw[if_neg h3,if_pos h2]at hta;have H9:=H8.set 2 k rfl (Aa Ab (r-l+1));have hbw9:=hbw8.setCell (p:=⟨GO,k,none⟩) hGW (Aa Ab (r-l+1));have HR:Hid (Bx w (tiL m.a m.b m.c (Ad (some ⟨kb,ko,none⟩) mn mc) s (Ad pA pn pc) (Ad A n cc) N P GO L mn (k+1)) (W8.setCell ⟨GO,k,none⟩ (Aa Ab (r-l+1)))∧Below w2.heap.size w2 (W8.setCell ⟨GO,k,none⟩ (Aa Ab (r-l+1)))):=Ae ⟨by unfold tiL;rw[←Rq hLn hlt hta];exact H9.upto 3,hbw9⟩;clear H9 hbw9 H8 hbw8 hta hLn hGW HTA2;go_wp2_with fail;exact⟨⟨k+1,by omega,by go_num,HR⟩,by simp[intOf];omega⟩
     ·have q10:(((tk%2:Nat):Int)==1)=false:=by
       have:tk%2=0:=by omega
       rw[this];rfl
      have hta:=HTA2.out;unfold Nj at hta;rw[if_neg h3,if_neg h2]at hta;have H9:=H8.set 2 k rfl (Aa Ab (u-d+1));have hbw9:=hbw8.setCell (p:=⟨GO,k,none⟩) hGW (Aa Ab (u-d+1));have HR:Hid (Bx w (tiL m.a m.b m.c (Ad (some ⟨kb,ko,none⟩) mn mc) s (Ad pA pn pc) (Ad A n cc) N P GO L mn (k+1)) (W8.setCell ⟨GO,k,none⟩ (Aa Ab (u-d+1)))∧Below w2.heap.size w2 (W8.setCell ⟨GO,k,none⟩ (Aa Ab (u-d+1)))):=Ae ⟨by unfold tiL;rw[←Rq hLn hlt hta];exact H9.upto 3,hbw9⟩;clear H9 hbw9 H8 hbw8 hta hLn hGW HTA2;go_wp2_with fail;exact⟨⟨k+1,by omega,by go_num,HR⟩,by simp[intOf];omega⟩
   ·obtain⟨W9,rfl⟩:=ez wr;obtain rfl:k=mn:=by omega
    have q0:¬(k:Int)<(k:Int):=by omega
    have hp:Nf L k k=L:=by
     unfold Nf;rw[Bc (by have:=HLn.out;omega),Nat.sub_self];simp
    rw[hp]at hB;have HF:Hid (Mr (ss,0) m.st k w (.returned (.tuple #[Ad (some ⟨GO,0,none⟩) k k,Aa Ab 0])) W9):=Ae ⟨hB.below,.inr ⟨rfl,GO,rfl,hB.lo 2 _ _ _ rfl,by rw[HL.out];exact hB.blk 2 _ _ _ rfl⟩⟩;clear hB hbw HZ hp;go_wp2_with fail;refine Af (v:= .tuple #[Ad (some ⟨GO,0,none⟩) k k,Aa Ab 0]) (by simp[results,Tryz.results13,go_sem]) rfl ?_;exact HF.out
 ·have q8:(er != 0)=true:=by simpa using her
  have HF:Hid (Mr (ss,er) m.st mn w (.returned (.tuple #[Ad none 0 0,Aa Ab er])) w2):=Ae ⟨H2.below,.inl ⟨her,rfl⟩⟩;clear hss hI H2;go_wp2_with fail;refine Af (v:= .tuple #[Ad none 0 0,Aa Ab er]) (by simp[results,Tryz.results13,go_sem]) rfl ?_;exact HF.out
theorem Xj (m:Mh):∀(l:List Sn) (s:St),Gs s→∀t∈(Em m l s).1,Gs t
 |[],s,h,t,ht=>by
  rw[show(Em m [] s).1=[s]from rfl]at ht;rw[List.mem_singleton.1 ht];exact h
 |n::r,s,h,t,ht=>by
  cases hd:(Hd m s n).2 with
  |none=>
   rw[Ju hd]at ht;rw[List.mem_singleton.1 ht];exact h
  |some s'=>
   rw[Jv hd]at ht;rcases Bh.1 ht with rfl|ht
   ·exact h
   ·exact Xj m r s' (gR h hd).1 t ht
theorem Gs.box {s:St} (h:Gs s):s.box.bd 5000:=Nq fun c hc=>by
 obtain⟨x,hx,rfl⟩:=List.mem_map.1 hc;exact(h.at x hx).1
theorem cI {ss:List St} {ts:List Sn} (h:∀s∈ss,Gs s):∀x∈Ko ss ts,-50000≤x∧x≤50000:=fun x hx=>by
 obtain⟨⟨s,t⟩,hp,rfl⟩:=List.mem_map.1 hx;have hb:=(h s (List.of_mem_zip hp).1).box;unfold Bb.bd at hb;unfold Nj;dsimp only
 split
 ·omega
 ·split<;>omega
def Pu (l:List Int):Int:=l.foldl (· +·) 0
def Pj (l:List Int):Int:=l.foldl max 0
theorem Ru {l:List Int} {k:Nat} {x:Int} (h:l[k]? =some x):Pu (l.take (k+1))=Pu (l.take k)+x∧Pj (l.take (k+1))=max (Pj (l.take k)) x:=by
 obtain⟨hk,rfl⟩:=As.1 h;unfold Pu Pj;rw[Ax hk,List.foldl_append,List.foldl_append];exact⟨rfl,rfl⟩
theorem Yu {l:List Int} (h:∀x∈l,-50000≤x∧x≤50000):∀k,k≤l.length→-(50000*(k:Int))≤Pu (l.take k)∧Pu (l.take k)≤50000*(k:Int)∧0≤Pj (l.take k)∧Pj (l.take k)≤50000
 |0,_=>by simp[Pu,Pj]
 |k+1,hk=>by
  obtain⟨h1,h2,h3,h4⟩:=Yu h k (by omega);have hx:=h l[k] (Au (by omega));obtain⟨e1,e2⟩:=Ru (l:=l) (k:=k) (Ar (by omega));rw[e1,e2];omega
def cJ (l:List Int) (c:Int):Int:=Pu l+(c-1)*Pj l
def Xe (R:List St×Int) (ts:List Sn) (c:Int):Int×Int:=if R.2≠0 then (0,R.2)else if c<1∨1000000<c then (0,1)else (cJ (Ko R.1 ts) c,0)
theorem cL (m:Mh) (s:St) (copies:Int) (hm:m.ok=true) (mA:Option Addr) (mn mc:Nat) (hmn:mn=m.st.length) (pA:Option Addr) (pc:Nat) (A:Option Addr) (cc:Nat) (w:Ag) (hrd:Rd w mA 3 mn (m.st.flatMap snC)) (hs:Gs s) (hA:AOk pA s.cr.length pc) (hpr:Rd w pA 3 s.cr.length (crs s.cr)) (hst:Cs w A s.l) (hQ:Qf w) (hT:Tn w):
  Ai Tryz.prog 17 #[.agg #[Aa Ab m.a,Aa Ab m.b,Aa Ab m.c,Ad mA mn mc],.agg #[Aa Ab s.a,Aa Ab s.b,Ad pA s.cr.length pc,Aa Ac s.root.t,Aa Ab s.root.x,Aa Ab s.root.y,Ad A s.l.length cc],Aa Ab copies] w
   (Cg (.tuple #[Aa Ab (Xe (Em m m.st s) m.st copies).1,Aa Ab (Xe (Em m m.st s) m.st copies).2]) w):=by
 have HTI:=Ae (fun(w':Ag) (hb:Below w.heap.size w w')=>Rw m s hm mA mn mc hmn pA pc A cc w' (hrd.below hb) hs hA (hpr.below hb) (hst.below hb) (hQ.below hb) (hT.below hb));have hmo:=Mh.ok_iff.1 hm;have hm16:mn≤16:=by have:=hmo.1;omega
 have hbd:=cI (ts:=m.st) (Xj m m.st s hs);have hfu:=fun h=>No (m:=m) (l:=m.st) (s:=s) h;have htl:=fun h=>Pw (ts:=m.st) (hfu h);have H:=((Bx.start w).new #[Aa Ab m.a,Aa Ab m.b,Aa Ab m.c,Ad mA mn mc] 24 rfl).new #[Aa Ab s.a,Aa Ab s.b,Ad pA s.cr.length pc,Aa Ac s.root.t,Aa Ab s.root.x,Aa Ab s.root.y,Ad A s.l.length cc] 43 (N:=w.heap.size+1) (by simp);unfold Xe;unfold Mr at HTI;obtain⟨⟨ss,er⟩,hR⟩:=ey (Em m m.st s);rw[hR]at HTI hbd hfu htl⊢;dsimp only at HTI hbd hfu htl⊢;obtain⟨L,hL⟩:=ey (Ko ss m.st);rw[hL]at HTI hbd htl⊢;obtain⟨R,hRR⟩:=ey ((if er≠0 then ((0:Int),er)else if copies<1∨1000000<copies then (0,1)else (cJ L copies,0)));rw[hRR];have HRR:=Ae hRR;have HLN:=Ae (fun h=>(htl h).trans hmn.symm);have HSB:=Ae (Yu hbd);have HLB:=Ae hbd;obtain⟨n,hn⟩:=ey s.l.length;obtain⟨pn,hpn⟩:=ey s.cr.length;rw[hn,hpn]at HTI H;rw[hn,hpn];clear hm hmn hrd hs hA hpr hst hQ hT hmo hn hpn hR hRR hL hbd hfu htl;go_enter Tryz.func17,Tryz.ntmps17;go_upto_region 1 with fail;obtain⟨N,hN⟩:=ez w.heap.size;rw[←hN]at H⊢;have HNN:=Ae hN;clear hN;obtain⟨P,hP⟩:=ey (N+1);rw[hP]at H⊢;clear hP;obtain⟨W1,hW1⟩:=ez ((w.alloc (.cells #[Aa Ab m.a,Aa Ab m.b,Aa Ab m.c,Ad mA mn mc] 24)).alloc (.cells #[Aa Ab s.a,Aa Ab s.b,Ad pA pn pc,Aa Ac s.root.t,Aa Ab s.root.x,Aa Ab s.root.y,Ad A n cc] 43));rw[←hW1]at H⊢;clear hW1;obtain⟨⟨m0,m1,m2,m3⟩,-⟩:=Co (H.blk 0 _ _ _ rfl);obtain⟨a0,a1,a2,a3,a4,a5,a6⟩:=De (H.blk 1 _ _ _ rfl);go_wp2_with fail;refine(HTI.out _ H.below).mono ?_;rintro ee w2 ⟨hb,⟨her,rfl⟩|⟨rfl,g,rfl,-,hg⟩⟩
 ·have H2:=H.call hb;have q8:(er != 0)=true:=by simpa using her
  have hrr:=HRR.out;rw[if_pos her]at hrr;subst hrr;have HF:=Ae H2.below;clear m0 m1 m2 m3 a0 a1 a2 a3 a4 a5 a6 hb H HTI H2;go_wp2_with fail;refine Af (v:= .tuple #[Aa Ab 0,Aa Ab er]) (by simp[results,Tryz.results17,go_sem]) rfl ?_;exact⟨rfl,HF.out⟩
 ·have H2:=H.call hb;have HF:=Ae H2.below;have HLL:=Ae (HLN.out rfl);have HG:=Ae hg;have hrr:=HRR.out;rw[if_neg (by decide)]at hrr;have HR2:=Ae hrr;clear m0 m1 m2 m3 a0 a1 a2 a3 a4 a5 a6 hb H HTI H2 hg HRR hrr;by_cases hc1:copies<1
  ·have hrr:=HR2.out;rw[if_pos (.inl hc1)]at hrr;subst hrr;go_wp2_with fail;refine Af (v:= .tuple #[Aa Ab 0,Aa Ab 1]) (by simp[results,Tryz.results17,go_sem]) rfl ?_;exact⟨rfl,HF.out⟩
  ·by_cases hc2:1000000<copies
   ·have hrr:=HR2.out;rw[if_pos (.inr hc2)]at hrr;subst hrr;go_wp2_with fail;refine Af (v:= .tuple #[Aa Ab 0,Aa Ab 1]) (by simp[results,Tryz.results17,go_sem]) rfl ?_;exact⟨rfl,HF.out⟩
   ·have hrr:=HR2.out;rw[if_neg (by omega)]at hrr;subst hrr;clear HR2;go_upto_region 7 with fail;go_wp2_with fail
    go_loopw [10,11,31] (fun s10 s11 s31 wr=>∃k:Nat,k≤mn∧s31= Aa Ab k∧s10= Aa Ab (Pu (L.take k))∧s11= Aa Ab (Pj (L.take k))∧Hid (Below w.heap.size w wr∧wr.heap[g]? =some (Obj.cells (Dp L).toArray 3 (0,0)))) (fun _ _ s31 _=>mn-(intOf s31).toNat)
    case atStart=>exact⟨0,by omega,rfl,rfl,rfl,Ae ⟨HF.out,HG.out⟩⟩
    case round=>
     obtain⟨k,hk,rfl,rfl,rfl,HW⟩:=hrel;by_cases hlt:k<mn
     ·have q0:(k:Int)<(mn:Int):=by omega
      have hkL:k<L.length:=by have:=HLL.out;omega
      have c0:wr.cell? ⟨g,k,none⟩=some (Aa Ab L[k]):=by
       rw[Bs _ _ _ _ _ (0,0) HW.out.2];simp[Dp,hkL]
      have hsn:=Ru (l:=L) (k:=k) (Ar hkL);have hbk:=HSB.out k (by omega);have hbx:=HLB.out L[k] (Au hkL);obtain⟨x,hx⟩:=ey (L[k]);rw[hx]at c0 hsn hbx;have HSN:=Ae hsn;obtain⟨a,ha⟩:=ey (Pu (L.take k));obtain⟨b,hb⟩:=ey (Pj (L.take k));rw[ha,hb]at hbk HSN;rw[ha,hb];have e1:wrap64 (a+x)=a+x:=Bw _ (by omega);have HMX:=fun(x y:Int) (ts:Array TypeId) (t:TypeId) (W:Ag)=>Nu Tryz.prog ts t x y W;clear hsn hx ha hb hbk hbx hkL;go_wp2_with fail;exact⟨⟨k+1,by omega,by go_num,by rw[HSN.out.1,e1],by rw[HSN.out.2],HW⟩,by simp[intOf];omega⟩
     ·obtain rfl:k=mn:=by omega
      have q0:¬(k:Int)<(k:Int):=by omega
      have ht:L.take k=L:=Bc (by have:=HLL.out;omega);have hbk:=HSB.out k (by have:=HLL.out;omega);rw[ht]at hbk;have htf:cJ L copies=Pu L+(copies-1)*Pj L:=rfl;rw[ht];obtain⟨a,ha⟩:=ey (Pu L);obtain⟨b,hb⟩:=ey (Pj L);rw[ha,hb]at hbk htf;rw[ha,hb];have HTF:=Ae htf;have hp1:0≤(copies-1)*b:=Int.mul_nonneg (by omega) (by omega);have hp2:(copies-1)*b≤1000000*50000:=Int.mul_le_mul (by omega) (by omega) (by omega) (by omega);have e1:wrap64 (copies-1)=copies-1:=Bw _ (by omega);have e2:wrap64 ((copies-1)*b)=(copies-1)*b:=Bw _ (by omega);have e3:wrap64 (a+(copies-1)*b)=a+(copies-1)*b:=Bw _ (by omega);clear ht hbk htf ha hb;go_wp2_with fail;refine Af (v:= .tuple #[Aa Ab (a+(copies-1)*b),Aa Ab 0]) (by simp[results,Tryz.results17,go_sem]) rfl ?_;exact⟨by rw[HTF.out],HW.out.1⟩
def Mn (a b:Int):List Stk:=(List.range (Cq a b)).map fun id=>⟨(Dd a b [] mv0).1.2.getD id cl0,[id]⟩
theorem Ag7 (a b:Int):Es a b=⟨a,b,[],mv0,Ff [] (Mn a b)⟩:=rfl
theorem dX (a b:Int) (k:Nat) (h:k<Cq a b):(Mn a b).take (k+1)=(Mn a b).take k++[⟨(Dd a b [] mv0).1.2.getD k cl0,[k]⟩]:=by
 have hl:k<(Mn a b).length:=by simpa[Mn]using h
 rw[Ax hl];simp[Mn]
theorem Ws {a b:Int} (hs:okS a b=true):Fy a b []:=⟨hs,by simp,by simp,by simp,.nil,by simp⟩
theorem Zt:∀(n:Nat) (g:Nat→Cl),El ((List.range n).map fun id=>(⟨g id,[id]⟩:Stk))=n
 |0,_=>rfl
 |n+1,g=>by
  rw[List.range_succ,List.map_append,Rb,Zt n g];rfl
def yY (s:St) (w:Ag) (e:Ending) (w':Ag):Prop:=∃cs,e= .returned (.tuple #[.agg cs.toArray,Aa Ab 0])∧La w.heap.size w' cs s∧Below w.heap.size w w'
theorem Tx (a b:Int) (w:Ag) (hs:okS a b=true) (h0:(Dd a b [] mv0).2=0) (hQ:Qf w) (hT:Tn w):
  Ai Tryz.prog 21 #[.agg #[Aa Ab a,Aa Ab b]] w (yY (Es a b) w):=by
 have HEM:=Ae (fun(w':Ag)=>kN a b w' hs);have HIM:=Ae (fun(w':Ag) (hb:Below w.heap.size w w')=>Lo a b none [] 0 0 mv0 w' (Ws hs) rfl Rd.nil (by omega) (by decide) (hQ.below hb) (hT.below hb));obtain⟨-,hil,-,hiok⟩:=Gq h0;have hci:=Fc hs;have HTK:=Ae (fun k h=>dX a b k h);have hFL:(Mn a b).length=Cq a b:=by simp[Mn]
 have hFT:El (Mn a b)=Cq a b:=Zt _ _
 have hFQ:∀x∈Mn a b,x.c.q≤255:=fun x hx=>by
  obtain⟨id,hid,rfl⟩:=List.mem_map.1 hx;have h1:id<(Dd a b [] mv0).1.2.length:=by rw[hil];simpa using hid
  dsimp only;rw[List.getD_eq_getElem?_getD,Ar h1];exact fI (hiok _ (Au h1))
 have HFF:Hid (Es a b=⟨a,b,[],mv0,Ff [] (Mn a b)⟩):=Ae rfl;rw[HFF.out];obtain⟨FL,hFLe⟩:=ey (Mn a b);rw[hFLe]at hFL hFT hFQ HTK⊢;obtain⟨cnt,hcnt⟩:=ey (Cq a b);rw[hcnt]at hFL hFT hil HTK;have hcb:cnt≤1024:=by rw[←hcnt];exact hci.2.2
 obtain⟨⟨⟨ms,is⟩,er⟩,hbF⟩:∃z,Dd a b [] mv0=z:=⟨_,rfl⟩;rw[hbF]at HIM h0 hil hiok HTK;dsimp only at HIM h0 hil hiok HTK;subst h0;rw[hil]at HIM;have HIL:=Ae hil;have HIO:=Ae hiok;have HFL:=Ae hFL;have HFT:=Ae hFT;have HFQ:=Ae hFQ;have H:=((Bx.start w).new #[Aa Ab a,Aa Ab b] 35 rfl).new #[Aa Ab 0,Aa Ab 0,Ad none 0 0,Aa Ac 0,Aa Ab 0,Aa Ab 0,Ad none 0 0] 43 (N:=w.heap.size+1) (by simp);clear hs hQ hT hil hiok hci hFL hFT hFQ hFLe hcnt hbF HFF;go_enter Tryz.func21,Tryz.ntmps21;go_upto_region 1 with fail;obtain⟨N,hN⟩:=ez w.heap.size;rw[←hN]at H⊢;have HNN:=Ae hN;clear hN;obtain⟨Q,hQ⟩:=ey (N+1);rw[hQ]at H⊢;clear hQ;obtain⟨W1,hW1⟩:=ez ((w.alloc (.cells #[Aa Ab a,Aa Ab b] 35)).alloc (.cells #[Aa Ab 0,Aa Ab 0,Ad none 0 0,Aa Ac 0,Aa Ab 0,Aa Ab 0,Ad none 0 0] 43));rw[←hW1]at H⊢;clear hW1;obtain⟨⟨a0,a1⟩,-⟩:=Cu (H.blk 0 _ _ _ rfl);go_wp2_with fail;refine(HEM.out _).mono ?_;rintro ee w2 ⟨rfl,hb⟩;have H2:=H.call hb;clear a0 a1 hb H HEM;obtain⟨P,hP⟩:=ey w2.heap.size;have H3:=H2.new #[Aa Ab a,Aa Ab b,Ad none 0 0] 38 hP;clear H2;go_upto_region 4 with fail
 try rw[hP]
 obtain⟨W3,hW3⟩:=ez (w2.alloc (.cells #[Aa Ab a,Aa Ab b,Ad none 0 0] 38));rw[←hW3]at H3⊢;clear hW3;clear hP;obtain⟨⟨p0,p1,p2⟩,-⟩:=Ci (H3.blk 2 _ _ _ rfl);obtain⟨S,hSd⟩:∃S:Ag→Prop,S=fun W'=>W'.cell? ⟨P,0,none⟩=some (Aa Ab a)∧W'.cell? ⟨P,1,none⟩=some (Aa Ab b)∧W'.cell? ⟨P,2,none⟩=some (Ad none 0 0):=⟨_,rfl⟩;have HSO:Hid (∀W',S W'→W'.cell? ⟨P,0,none⟩=some (Aa Ab a)∧W'.cell? ⟨P,1,none⟩=some (Aa Ab b)∧W'.cell? ⟨P,2,none⟩=some (Ad none 0 0)):=Ae fun W' h=>by subst hSd;exact h
 have HSA:Hid (∀W',Below W3.heap.size W3 W'→S W'):=Ae fun W' h=>by
  subst hSd;exact⟨Ce h p0,Ce h p1,Ce h p2⟩
 clear hSd p0 p1 p2;refine Al (S:=S) (by kernel_rfl) (HSA.out _ (Below.refl _ _).drew) (fun hS=>?_);have hb:Below W3.heap.size W3 W3.drew:=(Below.refl _ _).drew;have H4:=H3.drew;obtain⟨X0,hX0⟩:=ez W3.drew;rw[←hX0]at hb hS H4⊢;clear hX0;refine Cf 0 ?_;refine rdy 1 (fun K hK=>?_);go_simp;refine(Qi _).mono ?_;rintro e X1 ⟨rfl,hbm⟩;have H4:=H4.call hbm;have hb:=hb.trans (hbm.mono hb.size);refine hK.out _ _ (HSA.out _ hb) (fun hS=>?_);clear hK K hbm;unfold Mv.v mv0;dsimp only;have him:=HIM.out _ H4.below;unfold mv0 at him;dsimp only at him;refine rdy 2 (fun K hK=>?_);go_simp;refine him.mono ?_;rintro e X2 ⟨hbm,⟨h0,-⟩|⟨-,G2,rfl,hge,hG2⟩⟩
 ·exact absurd rfl h0
 have H5:=H4.join hbm hge hG2;have hb:=hb.trans (hbm.mono hb.size);refine hK.out _ _ (HSA.out _ hb) (fun hS=>?_);clear hK K hbm him hge hG2 H4 H3;refine Cf 3 ?_;refine Cf 4 ?_;refine Cf 5 ?_;refine Cf 6 ?_;refine Cf 7 ?_;refine Ak (by kernel_rfl) ?_ _;clear hS HSO HSA hb HIM;obtain⟨GO,hGO⟩:=ey X2.heap.size;have hmk:=Rn cnt (by omega) X2;have hO0:=Cv.made X2 cnt (by omega)
 have HLO:Hid (∀x∈[(N,#[Aa Ab a,Aa Ab b],35),(Q,#[Aa Ab 0,Aa Ab 0,Ad none 0 0,Aa Ac 0,Aa Ab 0,Aa Ab 0,Ad none 0 0],43),(P,#[Aa Ab a,Aa Ab b,Ad none 0 0],38),(G2,(Ej is).toArray,123)],x.1<GO):=Ae (by
  intro x hx;obtain⟨i,hi,rfl⟩:=Ay.1 hx;rw[←hGO];exact H5.lt i (Ar hi))
 have HWO:Hid (w.heap.size≤GO):=Ae (by have:=H5.below.size;omega);have H6:=H5.other (.cells ((Aw cnt skZ).flatMap Ds).toArray 125);rw[hGO]at hmk hO0;clear H5;go_upto_region 8 with fail
 try rw[hGO]
 obtain⟨W8,hW8⟩:=ez (X2.alloc (.cells ((Aw cnt skZ).flatMap Ds).toArray 125));rw[←hW8]at H6 hO0⊢;clear hW8;have HI0:Hid (∃zl:List SkR,zl.length=0∧zl.map (·.1)=FL.take 0∧Cv GO W8 (Ad (some ⟨GO,0,none⟩) cnt cnt) (zl++Aw (cnt-0) skZ)):=Ae ⟨[],rfl,rfl,hO0⟩;have HJ0:Hid (Bx w [(N,#[Aa Ab a,Aa Ab b],35),(Q,#[Aa Ab 0,Aa Ab 0,Ad none 0 0,Aa Ac 0,Aa Ab 0,Aa Ab 0,Ad none 0 0],43),(P,#[Aa Ab a,Aa Ab b,Ad none 0 0],38),(G2,(Ej is).toArray,123)] W8∧GO≤W8.heap.size):=Ae ⟨H6,by have:=(hO0.1.lt GO rfl).2;omega⟩;clear hmk hGO hO0 H6;go_wp2_with fail
 go_loopw [34] (fun s34 wr=>∃k:Nat,k≤cnt∧s34= Aa Ab k∧Hid (∃zl:List SkR,zl.length=k∧zl.map (·.1)=FL.take k∧Cv GO wr (Ad (some ⟨GO,0,none⟩) cnt cnt) (zl++Aw (cnt-k) skZ))∧Hid (Bx w [(N,#[Aa Ab a,Aa Ab b],35),(Q,#[Aa Ab 0,Aa Ab 0,Ad none 0 0,Aa Ac 0,Aa Ab 0,Aa Ab 0,Ad none 0 0],43),(P,#[Aa Ab a,Aa Ab b,Ad none 0 0],38),(G2,(Ej is).toArray,123)] wr∧GO≤wr.heap.size)) (fun s34 _=>cnt-(intOf s34).toNat)
 case atStart=>exact⟨0,by omega,rfl,HI0,HJ0⟩
 case round=>
  obtain⟨k,hk,rfl,HZ,HJ⟩:=hrel;clear HI0 HJ0;by_cases hlt:k<cnt
  ·have q0:(k:Int)<(cnt:Int):=by omega
   have hil:k<is.length:=by have:=HIL.out;omega
   obtain⟨b9,o9,e9,-,d0,d1,d2⟩:=Sj (Gv (HJ.out.1.blk 3 _ _ _ rfl) (Gm is)) k hil;obtain⟨rfl,rfl⟩:G2=b9∧0=o9:=by simpa using e9
   rw[Bp]at d0 d1 d2;have htk:=HTK.out k hlt;rw[show is.getD k cl0=is[k]by rw[List.getD_eq_getElem?_getD,Ar hil];rfl]at htk;obtain⟨⟨x0,x1,x2⟩,hx⟩:=ey (is[k]);rw[hx]at d0 d1 d2 htk;dsimp only at d0 d1 d2;have HT2:=Ae htk;obtain⟨X,hX⟩:=ey wr.heap.size;have H:=HJ.out.1.new #[Aa Ab x0,Aa Ab x1,Aa Ac x2] 123 hX;have hbq:=(Below.refl wr.heap.size wr).alloc (Aj _) (.cells #[Aa Ab x0,Aa Ab x1,Aa Ac x2] 123);clear hx htk e9 hil;go_upto_region 11 with fail
   try rw[hX]
   obtain⟨W9,hW9⟩:=ez (wr.alloc (.cells #[Aa Ab x0,Aa Ab x1,Aa Ac x2] 123));rw[←hW9]at H hbq⊢;clear hW9;clear d0 d1 d2 hX;obtain⟨⟨e0,e1,e2⟩,-⟩:=Ci (H.blk 4 _ _ _ rfl);have hXl:=H.lt 4 rfl;obtain⟨zl,hz0,hz1,hz2⟩:=HZ.out;obtain⟨Y,hY⟩:=ey W9.heap.size;have hb10:=hbq.alloc hbq.size (.cells #[Aa Ab (k:Int)] 3);have hYl:wr.heap.size≤Y:=hY▸hbq.size
   have hx9:Gx wr.heap.size (W9.alloc (.cells #[Aa Ab (k:Int)] 3)) (⟨⟨x0,x1,x2⟩,[k]⟩,(some ⟨Y,0,none⟩,1)):=by
    refine⟨.inr ⟨Y,0,rfl⟩,Aj _,by show 1≤maxLen;unfold maxLen;omega,rfl,.inr ⟨Y,#[Aa Ab (k:Int)],rfl,hYl,?_,?_,rfl⟩⟩
    ·rw[←hY];exact Bt W9 _
    ·exact Aj _
   obtain⟨ucell,ufree,hset⟩:=Qr hz2 (i:=k) (by simp[hz0];omega) hb10 hx9 HJ.out.2
   have hLset:(zl++Aw (cnt-k) skZ).set k (⟨⟨x0,x1,x2⟩,[k]⟩,(some ⟨Y,0,none⟩,1))=(zl++[(⟨⟨x0,x1,x2⟩,[k]⟩,(some ⟨Y,0,none⟩,1))])++Aw (cnt-(k+1)) skZ:=by
    rw[List.set_append_right _ _ (by omega),hz0,Nat.sub_self];rw[show cnt-k=(cnt-(k+1))+1 by omega,List.replicate_succ,Cb];simp
   rw[hLset]at hset;dsimp only at hset;obtain⟨v0,g0⟩:=ucell 0 (by omega);obtain⟨v1,g1⟩:=ucell 1 (by omega);obtain⟨v2,g2⟩:=ucell 2 (by omega);obtain⟨v3,g3⟩:=ucell 3 (by omega);rw[Nat.add_zero]at g0;have z0:=ufree (k*4);have z1:=ufree (k*4+1);have z2:=ufree (k*4+2);have z3:=ufree (k*4+3);have hb9:Below GO wr (W9.alloc (.cells #[Aa Ab (k:Int)] 3)):=hb10.mono HJ.out.2;have hbN:=(((hb9.setCell (p:=⟨GO,k*4,none⟩) (Aj _) (Aa Ab x0)).setCell (p:=⟨GO,k*4+1,none⟩) (Aj _) (Aa Ab x1)).setCell (p:=⟨GO,k*4+2,none⟩) (Aj _) (Aa Ac x2)).setCell (p:=⟨GO,k*4+3,none⟩) (Aj _) (Ad (some ⟨Y,0,none⟩) 1 1);have hB:=HJ.out.1.keepN HLO.out HWO.out hbN;have hsz:=hbN.size;have HREL:=Ae (And.intro hset (And.intro hB (Bo HJ.out.2 hsz)));have HZM:Hid ((zl++[((⟨⟨x0,x1,x2⟩,[k]⟩,(some ⟨Y,0,none⟩,1)):SkR)]).length=k+1∧(zl++[((⟨⟨x0,x1,x2⟩,[k]⟩,(some ⟨Y,0,none⟩,1)):SkR)]).map (·.1)=FL.take (k+1)):=Ae ⟨by rw[Be,hz0];rfl,by rw[List.map_append,hz1,HT2.out];rfl⟩;clear ucell ufree hLset hx9 hz0 hz1 hz2 hb10 hb9 hbN hB hsz hset hbq H HZ HJ hXl hYl;go_wp2_with fail;exact⟨⟨k+1,by omega,by go_num,Ae ⟨_,HZM.out.1,HZM.out.2,HREL.out.1⟩,Ae HREL.out.2⟩,by simp[intOf];omega⟩
  ·obtain⟨W1,rfl⟩:=ez wr;obtain rfl:k=cnt:=by omega
   have q0:¬(k:Int)<(k:Int):=by omega
   obtain⟨zl,hz0,hz1,hz2⟩:=HZ.out;have ht:FL.take k=FL:=Bc (by have:=HFL.out;omega);rw[ht]at hz1;rw[Nat.sub_self,List.replicate_zero,List.append_nil]at hz2;have hst:=hz2.stksN hz1;have HOV:=Ae (fun(w':Ag) (hb:Below W1.heap.size W1 w')=>Ur none (some ⟨GO,0,none⟩) [] FL 0 k 0 k w' ⟨[],rfl,Rd.nil,fun i h=>absurd h (Nat.not_lt_zero _)⟩ (hst.below hb) rfl HFL.out.symm (by omega) (by omega) (by rw[List.nil_append,HFT.out];omega) (by rw[List.nil_append];exact HFQ.out));have H:=HJ.out.1;obtain⟨⟨p0,p1,p2⟩,-⟩:=Ci (H.blk 2 _ _ _ rfl);obtain⟨S,hSd⟩:∃S:Ag→Prop,S=fun W'=>W'.cell? ⟨P,0,none⟩=some (Aa Ab a)∧W'.cell? ⟨P,1,none⟩=some (Aa Ab b)∧W'.cell? ⟨P,2,none⟩=some (Ad none 0 0):=⟨_,rfl⟩;have HSO:Hid (∀W',S W'→W'.cell? ⟨P,0,none⟩=some (Aa Ab a)∧W'.cell? ⟨P,1,none⟩=some (Aa Ab b)∧W'.cell? ⟨P,2,none⟩=some (Ad none 0 0)):=Ae fun W' h=>by subst hSd;exact h
   have HSA:Hid (∀W',W'.heap[P]? =W1.heap[P]? →S W'):=Ae fun W' h=>by
    have hc:∀j v,W1.cell? ⟨P,j,none⟩=some v→W'.cell? ⟨P,j,none⟩=some v:=fun j v hv=>by
     unfold World.cell? at hv⊢;rw[h];exact hv
    subst hSd;exact⟨hc _ _ p0,hc _ _ p1,hc _ _ p2⟩
   have hPl:=H.lt 2 rfl;clear hSd p0 p1 p2 hst hz0 hz1 hz2 ht HZ HJ;go_upto_region 13 with fail;refine Al (S:=S) (by kernel_rfl) (HSA.out _ rfl) (fun hS=>?_);have hb:Below W1.heap.size W1 W1.drew:=(Below.refl _ _).drew;have H2:=H.drew;obtain⟨X5,hX5⟩:=ez W1.drew;rw[←hX5]at hb hS H2⊢;clear hX5;refine Cf 0 ?_;refine Cf 2 ?_;refine rdy 1 (fun K hK=>?_);go_simp;refine(Qi _).mono ?_;rintro e X6 ⟨rfl,hbm⟩;have H3:=H2.call hbm;have hb:=hb.trans (hbm.mono hb.size);refine hK.out _ _ (HSA.out _ (hb.block P hPl)) (fun hS=>?_);clear hK K hbm H2;unfold Mv.v mv0;dsimp only;refine rdy 3 (fun K hK=>?_);go_simp;refine(HOV.out _ hb).mono ?_;rintro e X7 ⟨AO,cO,zO,rfl,hoO,hzO,hbm⟩;have hQl:=H3.lt 1 rfl;have HBW:=Ae H3.below.size;have H4:=H3.call hbm;have hb:=hb.trans (hbm.mono hb.size);refine hK.out _ _ (HSA.out _ (hb.block P hPl)) (fun hS=>?_);clear hK K hbm H3 H;refine Cf 4 ?_;obtain⟨z0,z1,z2,z3,z4,z5,z6⟩:=De (H4.blk 1 _ _ _ rfl);have y0:=Db (H4.blk 1 _ _ _ rfl) 0;have y1:=Db (H4.blk 1 _ _ _ rfl) 1;have y2:=Db (H4.blk 1 _ _ _ rfl) 2;have y3:=Db (H4.blk 1 _ _ _ rfl) 3;have y4:=Db (H4.blk 1 _ _ _ rfl) 4;have y5:=Db (H4.blk 1 _ _ _ rfl) 5;have y6:=Db (H4.blk 1 _ _ _ rfl) 6;have hQP:P≠Q:=H4.ne 2 1 (by decide) rfl rfl;obtain⟨n9,hn9⟩:=ey ((Ff [] FL).length);rw[hn9]at hoO⊢;have HZ:=((((((H4.set 1 0 rfl (Aa Ab a)).set 1 1 rfl (Aa Ab b)).set 1 2 rfl (Ad none 0 0)).set 1 3 rfl (Aa Ac 0)).set 1 4 rfl (Aa Ab 0)).set 1 5 rfl (Aa Ab 0)).set 1 6 rfl (Ad AO n9 n9);have hO:=((((((hoO.setLow hQl 0 (Aa Ab a)).setLow hQl 1 (Aa Ab b)).setLow hQl 2 (Ad none 0 0)).setLow hQl 3 (Aa Ac 0)).setLow hQl 4 (Aa Ab 0)).setLow hQl 5 (Aa Ab 0)).setLow hQl 6 (Ad AO n9 n9)
   have hsP:S (((((((X7.setCell ⟨Q,0,none⟩ (Aa Ab a)).setCell ⟨Q,1,none⟩ (Aa Ab b)).setCell ⟨Q,2,none⟩ (Ad none 0 0)).setCell ⟨Q,3,none⟩ (Aa Ac 0)).setCell ⟨Q,4,none⟩ (Aa Ab 0)).setCell ⟨Q,5,none⟩ (Aa Ab 0)).setCell ⟨Q,6,none⟩ (Ad AO n9 n9)):=by
    refine HSA.out _ ?_;rw[Below.heap_setCell _ ⟨Q,6,none⟩ _ P hQP,Below.heap_setCell _ ⟨Q,5,none⟩ _ P hQP,Below.heap_setCell _ ⟨Q,4,none⟩ _ P hQP,Below.heap_setCell _ ⟨Q,3,none⟩ _ P hQP,Below.heap_setCell _ ⟨Q,2,none⟩ _ P hQP,Below.heap_setCell _ ⟨Q,1,none⟩ _ P hQP,Below.heap_setCell _ ⟨Q,0,none⟩ _ P hQP];exact hb.block P hPl
   have HST:Hid (La w.heap.size (((((((X7.setCell ⟨Q,0,none⟩ (Aa Ab a)).setCell ⟨Q,1,none⟩ (Aa Ab b)).setCell ⟨Q,2,none⟩ (Ad none 0 0)).setCell ⟨Q,3,none⟩ (Aa Ac 0)).setCell ⟨Q,4,none⟩ (Aa Ab 0)).setCell ⟨Q,5,none⟩ (Aa Ab 0)).setCell ⟨Q,6,none⟩ (Ad AO n9 n9)) [Aa Ab a,Aa Ab b,Ad none 0 0,Aa Ac 0,Aa Ab 0,Aa Ab 0,Ad AO n9 n9] ⟨a,b,[],mv0,Ff [] FL⟩):=Ae (by
    have hbw:=HBW.out;subst hn9;exact yW (cr:=[]) (rt:=mv0) (.inl ⟨rfl,rfl,rfl⟩) (O:=w.heap.size) (e:=89) (co:=0) ⟨rfl,.inl ⟨rfl,rfl⟩⟩ (Aj _) hO hzO (by omega))
   have HZZ:=Ae HZ;have HSP:=Ae hsP;clear HZ hO hsP hoO hzO hn9 H4 hQl hb hPl HSA;refine rdy 5 (fun K hK=>?_);go_simp;refine hK.out _ _ HSP.out (fun hS=>?_);clear hK K z0 z1 z2 z3 z4 z5 z6 y0 y1 y2 y3 y4 y5 y6;refine Cf 6 ?_;refine Ak (by kernel_rfl) ?_ _;go_wp2_with fail;exact Af (Cj rfl rfl (HZZ.out.range 1 rfl) Tryz.underlying43 rfl (by kernel_rfl)) rfl ⟨_,rfl,HST.out,HZZ.out.below⟩
end Go.Proofs.YteoffhpfcgffcaaGreatDoor
namespace Go.Proofs
open Go.Shelf Go.RowKit
def Tryz.laysSortLn_ren:Go.Shelf.Ren:=⟨fun|6=>153|15=>138|14=>223|28=>207|29=>208|20=>270|21=>271|22=>272|23=>273|24=>274|25=>275|26=>276|27=>277|46=>338|47=>262|48=>263|49=>339|50=>340|57=>361|n=>n,fun|22=>181|24=>51|25=>280|3=>3|39=>261|0=>0|53=>336|55=>338|4=>4|46=>330|45=>329|50=>176|5=>5|9=>9|66=>395|70=>399|76=>442|77=>197|n=>n,fun|n=>n⟩
open Tryz in
theorem Tryz.laysSortLn:Go.Proofs.SlLaysF0.n6 Tryz.prog Tryz.laysSortLn_ren:={
 mixed:=by kernel_rfl,f6:=lyb func153,f14:=lyb func223,f15:=lyf func138,f20:=lyb func270,f21:=lyb func271,f22:=lyb func272,f23:=lyb func273,f24:=lyb func274,f25:=lyb func275,f26:=lyb func276,f27:=lyb func277,f28:=lyf func207,f29:=lyf func208,f46:=lyb func338,f47:=lyf func262,f48:=lyf func263,f49:=lyb func339,f50:=lyb func340,f57:=lyb func361,t0:=underlying0,a0:=isAgg0,z0:=sizeOf0,v0:=zeroValue0,t3:=underlying3,a3:=isAgg3,z3:=sizeOf3,v3:=zeroValue3,t4:=underlying4,a4:=isAgg4,z4:=sizeOf4,v4:=zeroValue4,t5:=underlying5,a5:=isAgg5,z5:=sizeOf5,v5:=zeroValue5,t9:=underlying9,a9:=isAgg9,z9:=sizeOf9,v9:=zeroValue9,t22:=underlying181,a22:=isAgg181,z22:=sizeOf181,v22:=zeroValue181,t25:=underlying280,a25:=isAgg280,z25:=sizeOf280,v25:=zeroValue280,t39:=underlying261,a39:=isAgg261,z39:=sizeOf261,v39:=zeroValue261,t45:=underlying329,a45:=isAgg329,z45:=sizeOf329,v45:=zeroValue329,t46:=underlying330,a46:=isAgg330,z46:=sizeOf330,v46:=zeroValue330,t50:=underlying176,a50:=isAgg176,z50:=sizeOf176,v50:=zeroValue176,t53:=underlying336,a53:=isAgg336,z53:=sizeOf336,v53:=zeroValue336,t55:=underlying338,a55:=isAgg338,z55:=sizeOf338,v55:=zeroValue338,t66:=underlying395,a66:=isAgg395,z66:=sizeOf395,v66:=zeroValue395,t70:=underlying399,a70:=isAgg399,z70:=sizeOf399,v70:=zeroValue399,t76:=underlying442,a76:=isAgg442,z76:=sizeOf442,v76:=zeroValue442,t77:=underlying197,a77:=isAgg197,z77:=sizeOf197,v77:=zeroValue197}
end Go.Proofs
namespace Go.Proofs.YteoffhpfcgffcaaGreatDoor
open Go.RowKit Go.Sort
abbrev LnE:=Int×Int
def lnI (x:LnE):List Ah:=[Aa Ac x.1,Aa Ab x.2]
def Yc (x y:LnE):Int:=orI (Cy x.1 y.1) (Cy x.2 y.2)
theorem pU (a b:Int) (w:Ag):Ai Tryz.prog 139 #[Aa Ac a,Aa Ac b] w (Li (Aa Ab (Cy a b)) w):=by
 obtain⟨R,hR⟩:=ey (Cy a b);rw[hR];have HR:=Ae hR;clear hR;go_enter Tryz.func139,Tryz.ntmps139;go_wp2_with (go_in)
 all_goals go_ret
 all_goals refine⟨Dm ?_,Bd.refl _⟩
 all_goals rw[←HR.out]
 all_goals first|rw[Ks (by omega)]|rw[Ta (by omega)]|rw[Sz (by omega) (by omega)]
theorem eR (x y:LnE) (w:Ag):Ai Tryz.prog 154 #[.agg (lnI x).toArray,.agg (lnI y).toArray] w (Li (Aa Ab (Yc x y)) w):=by
 obtain⟨x0,x1⟩:=x;obtain⟨y0,y1⟩:=y;unfold lnI Yc;dsimp only;have HC1:=Ae (fun w'=>pU x0 y0 w');have HC2:=Ae (fun w'=>Gf x1 y1 w');obtain⟨p,hp⟩:=ey (Cy x0 y0);obtain⟨q,hq⟩:=ey (Cy x1 y1);rw[hp]at HC1⊢;rw[hq]at HC2⊢;have hbd:Bd w ((w.alloc (.cells #[Aa Ac x0,Aa Ab x1] 51)).alloc (.cells #[Aa Ac y0,Aa Ab y1] 51)):=((Bd.refl w).alloc _).alloc _;have HB:=((Bx.start w).new #[Aa Ac x0,Aa Ab x1] 51 rfl).new #[Aa Ac y0,Aa Ab y1] 51 (N:=w.heap.size+1) (by simp);clear hp hq;go_enter Tryz.func154,Tryz.ntmps154;go_upto_region 1 with fail;obtain⟨W,hW⟩:=ez ((w.alloc (.cells #[Aa Ac x0,Aa Ab x1] 51)).alloc (.cells #[Aa Ac y0,Aa Ab y1] 51));rw[←hW]at HB hbd⊢;clear hW;obtain⟨N,hN⟩:=ez w.heap.size;rw[←hN]at HB⊢;have HNN:=Ae hN;clear hN;obtain⟨P,hP⟩:=ey (N+1);rw[hP]at HB⊢;clear hP;obtain⟨⟨a0,a1⟩,-⟩:=Cu (HB.blk 0 _ _ _ rfl);obtain⟨⟨b0,b1⟩,-⟩:=Cu (HB.blk 1 _ _ _ rfl);have HBD:=Ae hbd.drew;obtain⟨S,hSd⟩:∃S:Ag→Prop,S=fun W'=>(W'.cell? ⟨N,0,none⟩=some (Aa Ac x0)∧W'.cell? ⟨N,1,none⟩=some (Aa Ab x1))∧W'.cell? ⟨P,0,none⟩=some (Aa Ac y0)∧W'.cell? ⟨P,1,none⟩=some (Aa Ab y1):=⟨_,rfl⟩;have HSO:Hid (∀W',S W'→(W'.cell? ⟨N,0,none⟩=some (Aa Ac x0)∧W'.cell? ⟨N,1,none⟩=some (Aa Ab x1))∧W'.cell? ⟨P,0,none⟩=some (Aa Ac y0)∧W'.cell? ⟨P,1,none⟩=some (Aa Ab y1)):=Ae fun W' h=>by subst hSd;exact h
 have HSA:Hid (∀W',Below W.heap.size W W'→S W'):=Ae fun W' h=>by
  subst hSd;exact⟨⟨Ce h a0,Ce h a1⟩,Ce h b0,Ce h b1⟩
 clear hSd a0 a1 b0 b1 hbd HB;refine Al (S:=S) (by kernel_rfl) (HSA.out _ (Below.refl _ _).drew) (fun hS=>?_);have hb:Below W.heap.size W W.drew:=(Below.refl _ _).drew;obtain⟨X0,hX0⟩:=ez W.drew;rw[←hX0]at hb hS HBD⊢;clear hX0;refine Cf 0 ?_;refine Cf 1 ?_;refine Cf 2 ?_;refine Cf 3 ?_;refine Cf 5 ?_;refine Cf 6 ?_;refine Cf 7 ?_;refine Cf 8 ?_;refine rdy 4 (fun K hK=>?_);go_simp;refine(HC1.out _).mono ?_;rintro e X1 ⟨rfl,hbm⟩;have HBD:=Ae (HBD.out.trans hbm);have hb:=hb.trans (hbm.b.mono hb.size);refine hK.out _ _ (HSA.out _ hb) (fun hS=>?_);clear hK K hbm;refine rdy 9 (fun K hK=>?_);go_simp;refine(HC2.out _).mono ?_;rintro e X2 ⟨rfl,hbm⟩;have HBD:=Ae (HBD.out.trans hbm);have hb:=hb.trans (hbm.b.mono hb.size);refine hK.out _ _ (HSA.out _ hb) (fun hS=>?_);clear hK K hbm
 have hr:(X2.alloc (.cells #[Aa Ab p,Aa Ab q] 3)).rangeAt X2.heap.size 0 [Aa Ab p,Aa Ab q]:=fun j v hj=>by
  rw[Bp,Bs _ _ j _ _ (0,0) (Bt X2 _)];simpa using hj
 have HOR:=Ae (Yi X2.heap.size 2 p q _ hr);have HBD:=Ae (HBD.out.alloc (.cells #[Aa Ab p,Aa Ab q] 3));have hb:=hb.alloc hb.size (.cells #[Aa Ab p,Aa Ab q] 3);clear hr;refine rdy 10 (fun K hK=>?_);go_simp;refine hK.out _ _ (HSA.out _ hb) (fun hS=>?_);clear hK K;refine rdy 11 (fun K hK=>?_);go_simp;refine HOR.out.mono ?_;rintro e X3 ⟨rfl,hbm⟩;have HBD:=Ae (HBD.out.trans hbm);have hb:=hb.trans (hbm.b.mono hb.size);refine hK.out _ _ (HSA.out _ hb) (fun hS=>?_);clear hK K hbm;refine Cf 12 ?_;refine Ak (by kernel_rfl) ?_ _;go_wp2_with fail;go_ret;exact⟨rfl,HBD.out⟩
theorem wV (x y:LnE):ltOf Yc x y=decide (x.1<y.1∨(x.1=y.1∧x.2<y.2)):=by
 unfold ltOf Yc;rw[decide_eq_decide,Oa,Fu,Dt,Fu]
theorem Aj5:SWO (ltOf Yc) where
 irrefl x:=by rw[wV,decide_eq_false_iff_not];omega
 trans x y z h1 h2:=by rw[wV,decide_eq_true_iff]at*;omega
 ntrans x y z h1 h2:=by rw[wV,decide_eq_false_iff_not]at*;omega
theorem wK (w:Ag):(isAgg 51).run Tryz.prog w= .ok true w:=by kernel_rfl
theorem Ad0 (w:Ag):(Go.sizeOf 51).run Tryz.prog w= .ok 2 w:=by kernel_rfl
theorem gE {O m c:Nat} {B:Option Addr} (l:List LnE) (w:Ag) (h:w.ownsRow O 51 2 (Ad B m c) m (l.flatMap lnI)) (hm:m≤1000000):
  Ai Tryz.prog 153 #[Ad B m c,.func (.func 154) #[] #[]] w (Fi lnI Yc l O 51 2 m (Ad B m c) w):=
 Iu Tryz.laysSortLn 2 (by decide) wK Ad0 lnI (fun _=>rfl) (fun x v hv=>by
  simp[lnI]at hv;rcases hv with rfl|rfl<;>rfl) Yc Aj5 154 #[] (enters_of Tryz.func154 (by kernel_rfl) rfl) l w h hm (fun W' _ x y=>eR x y W')
theorem Vv {P:Program} (w:Ag) (t e ty:TypeId) (z:Ah) (ht:P.underlying t=some (.slice e)) (hv:∀w,(zeroValue e).run P w= .ok z w) (g o n c:Nat) (cur:Array Ah) (hg:w.heap[g]? =some (.cells cur e (0,0))) (hn:0<n)
  (hfit:o+n*z.cells.size≤cur.size) (h1:∀u∈(Builtin.zeroCells z.cells n).toList,u.oneCell'=true):
  (Builtin.clear_ #[t] ty #[Ad (some ⟨g,o,none⟩) n c]).run P w= .ok (.tuple #[]) (w.setRow g (cur.toList.take o++(Builtin.zeroCells z.cells n).toList++cur.toList.drop (o+(Builtin.zeroCells z.cells n).toList.length)).toArray):=by
 have hst:=run_storeCells_at P g o e (Builtin.zeroCells z.cells n).toList 0 cur w hg (by simpa[size_zeroCells]using hfit) h1;simp only[Nat.add_zero]at hst;obtain⟨m,rfl⟩:∃m,n=m+1:=⟨n-1,by omega⟩;simp[Builtin.clear_,run_underlying ht,hv,hst]
theorem Ix (x:LnE):(lnI x).length=2:=rfl
theorem Ki {O m c:Nat} {w:Ag} {B:Option Addr} {l:List LnE} (h:w.ownsRow O 51 2 (Ad B m c) m (l.flatMap lnI)) (i:Nat) (hi:i<l.length):
  ∃g,B=some ⟨g,0,none⟩∧w.cell? ⟨g,i*2,none⟩=some (Aa Ac l[i].1)∧w.cell? ⟨g,i*2+1,none⟩=some (Aa Ab l[i].2)∧∀j,w.frozen? ⟨g,j,none⟩=false:=by
 have hl:=h.1;rw[Dl lnI 2 Ix]at hl;rcases h.2 with⟨-,h0⟩|⟨g,cap,cur,hv,-,hg,-⟩
 ·omega
 obtain⟨rfl,rfl⟩:B=some ⟨g,0,none⟩∧c=cap:=by simpa using hv
 obtain⟨b,o,e,-,hc⟩:=(Rd.of_own h).2 (by omega);obtain⟨rfl,rfl⟩:g=b∧0=o:=by simpa using e
 have hat:∀f v,f<2→(lnI l[i])[f]? =some v→w.cell? ⟨g,i*2+f,none⟩=some v:=fun f v hf hv=>by
  have:=hc (i*2+f) v ((Dc lnI 2 Ix l i f hi hf).trans hv)
  rwa [Bp]at this
 exact⟨g,rfl,hat 0 _ (by omega) rfl,hat 1 _ (by omega) rfl,Kh h⟩
theorem wT (l:List LnE) (n:Nat) (hn:n≤l.length):(l.flatMap lnI).take (n*2)=(l.take n).flatMap lnI:=by
 have h:l.flatMap lnI=(l.take n).flatMap lnI++(l.drop n).flatMap lnI:=by rw[←Bf,List.take_append_drop]
 have hl:((l.take n).flatMap lnI).length=n*2:=by rw[Dl lnI 2 Ix,Bj,Nat.min_eq_left hn]
 rw[h,←hl,List.take_left]
theorem nY (w:Ag):(zeroValue 51).run Tryz.prog w= .ok (.agg #[Aa Ac 0,Aa Ab 0]) w:=by kernel_rfl
theorem mD {O m c g n:Nat} {w w0:Ag} {l:List LnE} (h:w.ownsRow O 51 2 (Ad (some ⟨g,0,none⟩) m c) m (l.flatMap lnI)) (hl:l.length=m) (hn:n<m) (hg:w0.grownBy w (some g)):
  ∃w',(∀ty,(Builtin.clear_ #[181] ty #[Ad (some ⟨g,n*2,none⟩) (m-n) (c-n)]).run Tryz.prog w= .ok (.tuple #[]) w')∧w'.ownsRow O 51 2 (Ad (some ⟨g,0,none⟩) n c) n ((l.take n).flatMap lnI)∧w0.grownBy w' (some g):=by
 rcases h.2 with⟨h0,-⟩|⟨g',cap,cur,hv,hb,hgg,hmc,hcm,hcs,htk⟩
 ·cases h0
 obtain⟨rfl,rfl⟩:g=g'∧c=cap:=by simpa using hv
 have hzs:(Builtin.zeroCells (Value.agg #[Aa Ac 0,Aa Ab 0]).cells (m-n)).toList.length=(m-n)*2:=by
  rw[Array.length_toList,size_zeroCells];rfl
 have hz1:∀u∈(Builtin.zeroCells (Value.agg #[Aa Ac 0,Aa Ab 0]).cells (m-n)).toList,u.oneCell'=true:=by
  intro u hu;obtain⟨i,hi,rfl⟩:=Ay.1 hu;simp[Builtin.zeroCells,Value.cells];have h2:i%2=0∨i%2=1:=by omega
  rcases h2 with h2|h2<;>simp[h2,Value.oneCell']
 refine⟨_,fun ty=>Vv w 181 51 ty (.agg #[Aa Ac 0,Aa Ab 0]) Tryz.underlying181 nY g (n*2) (m-n) (c-n) cur hgg (by omega) (by show n*2+(m-n)*2≤cur.size;omega) hz1,⟨?_,.inr ⟨g,c,_,rfl,hb,setRow_heap w g cur _ 51 _ hgg,by omega,hcm,?_,?_⟩⟩,Eu hg ⟨rfl,rfl,rfl,by simp,fun k _ hk=>setRow_other w g k _ (fun e=>hk (by simp[e]))⟩⟩
 ·rw[Dl lnI 2 Ix,Bj,Nat.min_eq_left (by omega)]
 ·simp only[List.size_toArray,Be,Bj,List.length_drop,Array.length_toList,hzs];omega
 ·have h9:(cur.toList.take (n*2)).length=n*2:=by rw[Bj,Array.length_toList];omega
  have h8:cur.toList.take (n*2)=(l.take n).flatMap lnI:=by
   rw[←wT l n (by omega),←htk,List.take_take,Nat.min_eq_left (by omega)]
  rw[←h8];simp only[Bg];exact List.take_left' h9
def Rf (l:List LnE) (O:Nat) (B:Option Addr) (c:Nat) (w:Ag) (e:Ending) (w':Ag):Prop:=e= .returned (Ad B l.length c)∧w'.ownsRow O 51 2 (Ad B l.length c) l.length (l.flatMap lnI)∧w.grownBy w' (Value.ownBlock (Ad B l.length c))
theorem Rj {l:List LnE}:∀k,(∀j,j<k→(hj:j+1<l.length)→l[j+1]? ≠l[j]?)→k+1≤l.length→Eo (l.take (k+1))=l.take (k+1)
 |0,_,hl=>by
  rw[Pf l 0 (by omega)];simp[Eo,Ax (show 0<l.length by omega)]
 |k+1,h,hl=>by
  have ih:=Rj k (fun j hj hj1=>h j (by omega) hj1) (by omega);rw[Pf l (k+1) (by omega),ih,Ax (show k+1<l.length by omega)]
  have hlast:(l.take (k+1)).getLast? =l[k]? :=by
   rw[Ax (show k<l.length by omega),List.getLast?_append];simp[Ar (show k<l.length by omega)]
  rw[hlast,if_neg];have:=h k (by omega) (by omega);rw[Ar (show k+1<l.length by omega)]at this;exact fun e=>this e.symm
theorem Ts {l:List LnE} {i:Nat} (h0:0<i) (hi:i<l.length) {x y:LnE} (hx:l[i]? =some x) (hy:l[i-1]? =some y):Eo (l.take (i+1))=if x=y then Eo (l.take i)else Eo (l.take i)++[x]:=by
 rw[Ar hi]at hx
 have hne:l.take i≠[]:=by
  intro h;have h1:=congrArg List.length h;rw[Bj,List.length_nil]at h1;omega
 have hlast:(l.take i).getLast? =some y:=by
  rw[←hy];obtain⟨j,rfl⟩:∃j,i=j+1:=⟨i-1,by omega⟩;rw[Ax (show j<l.length by omega),List.getLast?_append];simp[Ar (show j<l.length by omega)]
 rw[Pf l i hi,dN _ hne,hlast];injection hx with hx;rw[hx];by_cases h:x=y
 ·rw[if_pos h,if_pos (by rw[h])]
 ·rw[if_neg h,if_neg (fun e=>h (by injection e with e;exact e.symm))]
theorem aW {O m c g:Nat} {w:Ag} {l:List LnE} (h:w.ownsRow O 51 2 (Ad (some ⟨g,0,none⟩) m c) m (l.flatMap lnI)) (i:Nat) (hi:i<l.length) (x:LnE) {w0:Ag} (hg:w0.grownBy w (some g)):
  ((w.setCell ⟨g,i*2,none⟩ (Aa Ac x.1)).setCell ⟨g,i*2+1,none⟩ (Aa Ab x.2)).ownsRow O 51 2 (Ad (some ⟨g,0,none⟩) m c) m ((l.set i x).flatMap lnI)∧w0.grownBy ((w.setCell ⟨g,i*2,none⟩ (Aa Ac x.1)).setCell ⟨g,i*2+1,none⟩ (Aa Ab x.2)) (some g):=by
 have s1:=En h hg (i*2) (Aa Ac x.1);have s2:=En s1.1 s1.2 (i*2+1) (Aa Ab x.2);have e1:=Fe lnI 2 Ix l i 0 hi (by omega) (x.1,l[i].2) (Aa Ac x.1) rfl;have e2:=Fe lnI 2 Ix (l.set i (x.1,l[i].2)) i 1 (by simpa using hi) (by omega) x (Aa Ab x.2) (by rw[List.getElem_set_self];rfl);rw[List.set_set]at e2;rw[Nat.add_zero]at e1;rw[←e1,←e2]at s2;exact s2
theorem Vm {O m c:Nat} {B:Option Addr} (l:List LnE) (w:Ag) (h:w.ownsRow O 51 2 (Ad B m c) m (l.flatMap lnI)) (hm:m≤1000000):
  Ai Tryz.prog 157 #[Ad B m c] w (Rf (Eo l) O B c w):=by
 have hlm:l.length=m:=by
  have:=h.1;rw[Dl lnI 2 Ix]at this;omega
 have HLM:=Ae hlm;by_cases h2:m<2
 ·have hcf:Eo l=l:=by
   match l,hlm with
   |[],_=>rfl
   |[x],_=>rfl
   |_::_::_,hlm=>simp at hlm;omega
  have HF:Hid (Rf (Eo l) O B c w (.returned (Ad B m c)) w):=Ae (by
   rw[hcf];exact⟨by rw[hlm],by rw[hlm];exact h,Dn _ _⟩)
  have q0:(m:Int)<2:=by omega
  clear h hlm hcf;go_enter Tryz.func157,Tryz.ntmps157;go_wp2_with fail;go_ret;exact HF.out
 ·have q0:¬(m:Int)<2:=by omega
  have HOWN:=Ae h;obtain⟨g,rfl,-,-,hfz⟩:=Ki h 0 (by omega);have HFZ:=Ae hfz;obtain⟨_,c9,hv9,hmc,hcm⟩:=Dy h;obtain⟨-,rfl⟩:_∧c=c9:=by simpa using hv9
  have hcm2:c≤9223372036854775807:=by unfold maxLen at hcm;omega
  clear h hlm hfz hv9 hcm;go_enter Tryz.func157,Tryz.ntmps157;go_wp2_with fail
  go_loopw [3] (fun s3 wr=>∃k:Nat,1≤k∧k≤m∧s3= Aa Ab k∧Hid (∀j,j<k-1→(hj:j+1<l.length)→l[j+1]? ≠l[j]?)∧Hid (wr.ownsRow O 51 2 (Ad (some ⟨g,0,none⟩) m c) m (l.flatMap lnI)∧w.grownBy wr (some g))) (fun s3 _=>m-(intOf s3).toNat)
  case atStart=>exact⟨1,by omega,by omega,rfl,Ae fun j hj=>absurd hj (by omega),Ae ⟨HOWN.out,Dn _ _⟩⟩
  case round=>
   obtain⟨k,hk1,hk,rfl,HU,HR⟩:=hrel;by_cases hlt:k<m
   ·have q1:(k:Int)<(m:Int):=by omega
    have hkl:k<l.length:=by have:=HLM.out;omega
    have hkl1:k-1<l.length:=by omega
    obtain⟨_,e1,d0,d1,-⟩:=Ki HR.out.1 k hkl;obtain⟨_,e2,d2,d3,-⟩:=Ki HR.out.1 (k-1) hkl1;obtain rfl:=(Addr.mk.inj (Option.some.inj e1)).1;obtain rfl:=(Addr.mk.inj (Option.some.inj e2)).1;have e3:wrap64 ((k:Int)-1)=((k-1:Nat):Int):=by rw[Bw _ (by omega)];omega
    have q2:((k-1:Nat):Int)<(m:Int):=by omega
    obtain⟨⟨x0,x1⟩,hx⟩:=ey (l[k]);obtain⟨⟨y0,y1⟩,hy⟩:=ey (l[k-1]);rw[hx]at d0 d1;rw[hy]at d2 d3;dsimp only at d0 d1 d2 d3;have HX:=Ae hx;have HY:=Ae hy;clear hx hy e1 e2;go_upto_region 6 with fail;by_cases hd0:x0=y0
    ·by_cases hd1:x1=y1
     ·subst hd0;subst hd1
      go_quiet (fail)
      have hown1:=Ck HR.out.1 (Aj _) (Cp (Below.refl wr.heap.size wr) nq);have hgr1:=Et HR.out.2 nq;obtain⟨W1,hW1⟩:=ez (wr.drewN nq);rw[←hW1]at hown1 hgr1⊢;clear hW1 d0 d1 d2 d3
      have hcf:Eo (l.take k)=l.take k:=by
       have:=Rj (l:=l) (k-1) HU.out (by omega)
       rwa [show k-1+1=k by omega]at this
      have hcf1:Eo (l.take (k+1))=l.take k:=by
       rw[Ts (by omega) hkl (Ar hkl) (Ar hkl1),HX.out,HY.out,if_pos rfl,hcf]
      have HI0:Hid (∃cur:List LnE,cur.length=m∧cur.take k=Eo (l.take (k+1))∧(∀i,k+1-1≤i→cur[i]? =l[i]?)∧W1.ownsRow O 51 2 (Ad (some ⟨g,0,none⟩) m c) m (cur.flatMap lnI)∧w.grownBy W1 (some g)):=Ae ⟨l,HLM.out,hcf1.symm,fun i _=>rfl,hown1,hgr1⟩;clear hown1 hgr1 hcf hcf1 HX HY HR HU e3 q2;obtain⟨WY,rfl⟩:=ez wr;go_wp2_with fail
      go_loopw [3,5] (fun s3 s5 wr=>∃(j n1:Nat),1≤j∧k+j≤m∧s3= Aa Ab n1∧s5= Aa Ab j∧n1≤k+j-1∧Hid (∃cur:List LnE,cur.length=m∧cur.take n1=Eo (l.take (k+j))∧(∀i,k+j-1≤i→cur[i]? =l[i]?)∧wr.ownsRow O 51 2 (Ad (some ⟨g,0,none⟩) m c) m (cur.flatMap lnI)∧w.grownBy wr (some g))) (fun _ s5 _=>m-(intOf s5).toNat)
      case atStart=>exact⟨1,k,by omega,by omega,rfl,rfl,by omega,HI0⟩
      case round=>
       obtain⟨j,n1,hj1,hjm,rfl,rfl,hn1,HZ⟩:=hrel;clear HI0;by_cases hlt2:k+j<m
       ·have q2:(j:Int)<((m-k:Nat):Int):=by omega
        obtain⟨cur,hc1,hc2,hc3,hc4,hc5⟩:=HZ.out;have hkj:k+j<cur.length:=by omega
        have hkj1:k+j-1<cur.length:=by omega
        obtain⟨_,e1,d0,d1,hfz⟩:=Ki hc4 (k+j) hkj;obtain⟨_,e2,d2,d3,-⟩:=Ki hc4 (k+j-1) hkj1;obtain rfl:=(Addr.mk.inj (Option.some.inj e1)).1;obtain rfl:=(Addr.mk.inj (Option.some.inj e2)).1;have e3:wrap64 ((j:Int)-1)=((j-1:Nat):Int):=by rw[Bw _ (by omega)];omega
        have hx0:=hc3 (k+j) (by omega);have hy0:=hc3 (k+j-1) (Aj _);rw[Ar hkj]at hx0;rw[Ar hkj1]at hy0;obtain⟨⟨x0,x1⟩,hx⟩:=ey (cur[k+j]);obtain⟨⟨y0,y1⟩,hy⟩:=ey (cur[k+j-1]);rw[hx]at d0 d1 hx0;rw[hy]at d2 d3 hy0;dsimp only at d0 d1 d2 d3;rw[Nat.add_mul]at d0 d1;rw[show k+j-1=k+(j-1)by omega,Nat.add_mul]at d2 d3;have hstep:=Ts (l:=l) (i:=k+j) (by omega) (by have:=HLM.out;omega) hx0.symm hy0.symm;have HSTEP:=Ae hstep;have HC:=Ae (And.intro hc1 (And.intro hc2 (And.intro hc3 (And.intro hc4 hc5))));have q3:((j-1:Nat):Int)<((m-k:Nat):Int):=by omega
        clear hx hy hx0 hy0 hstep e1 e2 hc1 hc2 hc3 hc4 hc5 HZ hkj hkj1;go_upto_region 11 with fail;by_cases hd0:x0=y0
        ·by_cases hd1:x1=y1
         ·subst hd0;subst hd1;have hst:Eo (l.take (k+(j+1)))=Eo (l.take (k+j)):=by rw[←Nat.add_assoc,HSTEP.out,if_pos rfl]
          have HST:=Ae hst;clear hst
          go_quiet (fail)
          go_wp2_with fail;obtain⟨hc1,hc2,hc3,hc4,hc5⟩:=HC.out;exact⟨⟨j+1,n1,by omega,by omega,rfl,by go_num,by omega,Ae ⟨cur,hc1,by rw[HST.out];exact hc2,fun i hi=>hc3 i (by omega),Ck hc4 (Aj _) (Cp (Below.refl _ _) _),Et hc5 _⟩⟩,by simp[intOf];omega⟩
         ·have hst:Eo (l.take (k+(j+1)))=Eo (l.take (k+j))++[(x0,x1)]:=by rw[←Nat.add_assoc,HSTEP.out,if_neg (fun h=>hd1 (by injection h))]
          subst hd0;have HST:=Ae hst;clear hst
          go_quiet (fail)
          obtain⟨hc1,hc2,hc3,hc4,hc5⟩:=HC.out;have hb7:=Cp (Below.refl wr.heap.size wr) nq;have hown7:=Ck hc4 (Aj _) hb7;have hgr7:=Et hc5 nq;obtain⟨W7,hW7⟩:=ez (wr.drewN nq);rw[←hW7]at hown7 hgr7⊢;have d0:W7.cell? ⟨g,k*2+j*2,none⟩=some (Aa Ac x0):=by rw[hW7];exact d0
          have d1:W7.cell? ⟨g,k*2+j*2+1,none⟩=some (Aa Ab x1):=by rw[hW7];exact d1
          clear hW7 hb7 d2 d3;have hn1l:n1<cur.length:=by omega
          obtain⟨_,e8,s0,s1,hfz7⟩:=Ki hown7 n1 hn1l;obtain rfl:=(Addr.mk.inj (Option.some.inj e8)).1;have y0:=hfz7 (n1*2);have y1:=hfz7 (n1*2+1);have hset:=aW hown7 n1 hn1l (x0,x1) hgr7;have q5:(n1:Int)<(m:Int):=by omega
          have HFIN:Hid (∃cur2:List LnE,cur2.length=m∧cur2.take (n1+1)=Eo (l.take (k+(j+1)))∧(∀i,k+(j+1)-1≤i→cur2[i]? =l[i]?)∧((W7.setCell ⟨g,n1*2,none⟩ (Aa Ac x0)).setCell ⟨g,n1*2+1,none⟩ (Aa Ab x1)).ownsRow O 51 2 (Ad (some ⟨g,0,none⟩) m c) m (cur2.flatMap lnI)∧w.grownBy ((W7.setCell ⟨g,n1*2,none⟩ (Aa Ac x0)).setCell ⟨g,n1*2+1,none⟩ (Aa Ab x1)) (some g)):=Ae ⟨cur.set n1 (x0,x1),by rw[List.length_set];exact hc1,by
           rw[HST.out,←hc2,Ax (by rw[List.length_set];exact hn1l),List.getElem_set_self,List.take_set_of_le (Aj _)],fun i hi=>by rw[List.getElem?_set_ne (by omega)];exact hc3 i (by omega),hset.1,hset.2⟩
          clear hset hown7 hgr7 hfz7 hc1 hc2 hc3 hc4 hc5 HC e8;go_wp2_with fail;exact⟨⟨j+1,n1+1,by omega,by omega,by go_num,by go_num,by omega,HFIN⟩,by simp[intOf];omega⟩
        ·have hst:Eo (l.take (k+(j+1)))=Eo (l.take (k+j))++[(x0,x1)]:=by rw[←Nat.add_assoc,HSTEP.out,if_neg (fun h=>hd0 (by injection h))]
         have HST:=Ae hst;clear hst
         go_quiet (fail)
         obtain⟨hc1,hc2,hc3,hc4,hc5⟩:=HC.out;have hb7:=Cp (Below.refl wr.heap.size wr) nq;have hown7:=Ck hc4 (Aj _) hb7;have hgr7:=Et hc5 nq;obtain⟨W7,hW7⟩:=ez (wr.drewN nq);rw[←hW7]at hown7 hgr7⊢;have d0:W7.cell? ⟨g,k*2+j*2,none⟩=some (Aa Ac x0):=by rw[hW7];exact d0
         have d1:W7.cell? ⟨g,k*2+j*2+1,none⟩=some (Aa Ab x1):=by rw[hW7];exact d1
         clear hW7 hb7 d2 d3;have hn1l:n1<cur.length:=by omega
         obtain⟨_,e8,s0,s1,hfz7⟩:=Ki hown7 n1 hn1l;obtain rfl:=(Addr.mk.inj (Option.some.inj e8)).1;have y0:=hfz7 (n1*2);have y1:=hfz7 (n1*2+1);have hset:=aW hown7 n1 hn1l (x0,x1) hgr7;have q5:(n1:Int)<(m:Int):=by omega
         have HFIN:Hid (∃cur2:List LnE,cur2.length=m∧cur2.take (n1+1)=Eo (l.take (k+(j+1)))∧(∀i,k+(j+1)-1≤i→cur2[i]? =l[i]?)∧((W7.setCell ⟨g,n1*2,none⟩ (Aa Ac x0)).setCell ⟨g,n1*2+1,none⟩ (Aa Ab x1)).ownsRow O 51 2 (Ad (some ⟨g,0,none⟩) m c) m (cur2.flatMap lnI)∧w.grownBy ((W7.setCell ⟨g,n1*2,none⟩ (Aa Ac x0)).setCell ⟨g,n1*2+1,none⟩ (Aa Ab x1)) (some g)):=Ae ⟨cur.set n1 (x0,x1),by rw[List.length_set];exact hc1,by
          rw[HST.out,←hc2,Ax (by rw[List.length_set];exact hn1l),List.getElem_set_self,List.take_set_of_le (Aj _)],fun i hi=>by rw[List.getElem?_set_ne (by omega)];exact hc3 i (by omega),hset.1,hset.2⟩
         clear hset hown7 hgr7 hfz7 hc1 hc2 hc3 hc4 hc5 HC e8;go_wp2_with fail;exact⟨⟨j+1,n1+1,by omega,by omega,by go_num,by go_num,by omega,HFIN⟩,by simp[intOf];omega⟩
       ·have hjk:k+j=m:=by omega
        have q2:¬(j:Int)<((m-k:Nat):Int):=by omega
        obtain⟨cur,hc1,hc2,hc3,hc4,hc5⟩:=HZ.out;obtain⟨w9,hclr,hown9,hg9⟩:=mD hc4 hc1 (show n1<m by omega) hc5;have hcF:Eo l=cur.take n1:=by rw[hc2,hjk,Bc (by have:=HLM.out;omega)]
        have hcl:(Eo l).length=n1:=by rw[hcF,Bj];omega
        have HF:Hid (Rf (Eo l) O (some ⟨g,0,none⟩) c w (.returned (Ad (some ⟨g,0,none⟩) n1 c)) w9):=Ae (by
         unfold Rf;rw[hcl,hcF];exact⟨rfl,hown9,hg9⟩)
        have q5:(n1:Int)≤(m:Int):=by omega
        have q6:n1≤m:=by omega
        have q7:n1≤c:=by omega
        clear hc1 hc2 hc3 hc4 hc5 hown9 hg9 hcF hcl HZ hjk;go_wp2_with fail;go_ret;exact HF.out
     ·subst hd0
      have HU2:Hid (∀j,j<k+1-1→(hj:j+1<l.length)→l[j+1]? ≠l[j]?):=Ae fun j hj hj1 h9=>by
       by_cases hjk:j+1=k
       ·subst hjk;rw[Ar hj1,Ar (by omega)]at h9;have e1:=HX.out;have e2:=HY.out;simp only[Nat.add_sub_cancel]at e2;rw[e1,e2]at h9;simp at h9
        first|exact hd0 h9.1|exact hd1 h9
       ·exact HU.out j (by omega) hj1 h9
      go_quiet (fail)
      go_wp2_with fail;exact⟨⟨k+1,by omega,by omega,by go_num,HU2,Ae ⟨Ck HR.out.1 (Aj _) (Cp (Below.refl _ _) _),Et HR.out.2 _⟩⟩,by simp[intOf];omega⟩
    ·have HU2:Hid (∀j,j<k+1-1→(hj:j+1<l.length)→l[j+1]? ≠l[j]?):=Ae fun j hj hj1 h9=>by
      by_cases hjk:j+1=k
      ·subst hjk;rw[Ar hj1,Ar (by omega)]at h9;have e1:=HX.out;have e2:=HY.out;simp only[Nat.add_sub_cancel]at e2;rw[e1,e2]at h9;simp at h9
       first|exact hd0 h9.1|exact hd1 h9
      ·exact HU.out j (by omega) hj1 h9
     go_quiet (fail)
     go_wp2_with fail;exact⟨⟨k+1,by omega,by omega,by go_num,HU2,Ae ⟨Ck HR.out.1 (Aj _) (Cp (Below.refl _ _) _),Et HR.out.2 _⟩⟩,by simp[intOf];omega⟩
   ·obtain rfl:k=m:=by omega
    have q1:¬(k:Int)<(k:Int):=by omega
    have hcF:Eo l=l:=by
     have h1:=Rj (l:=l) (k-1) (fun j hj hj1=>HU.out j hj hj1) (by have:=HLM.out;omega)
     rwa [show k-1+1=k by omega,Bc (by have:=HLM.out;omega)]at h1
    have HF:Hid (Rf (Eo l) O (some ⟨g,0,none⟩) c w (.returned (Ad (some ⟨g,0,none⟩) k c)) wr):=Ae (by
     unfold Rf;rw[hcF,HLM.out];exact⟨rfl,HR.out.1,HR.out.2⟩)
    clear hcF HR HU;go_wp2_with fail;go_ret;exact HF.out
end Go.Proofs.YteoffhpfcgffcaaGreatDoor
namespace Go.Proofs.YteoffhpfcgffcaaGreatDoor
open Go.RowKit
theorem uC {c d:Cl} {e:Nat} (he:e<3) (h:Ha c e=(d,0)) (hb:∀j,j<e→Ha c j≠(d,0)):Ig c d=(e,0):=by
 unfold Ig
 match e,he,h,hb with
 |0,_,h,_=>rw[if_pos h]
 |1,_,h,hb=>rw[if_neg (hb 0 (by omega)),if_pos h]
 |2,_,h,hb=>rw[if_neg (hb 0 (by omega)),if_neg (hb 1 (by omega)),if_pos h]
theorem uE {c d:Cl} (hb:∀j,j<3→Ha c j≠(d,0)):Ig c d=(0,7):=by
 unfold Ig;rw[if_neg (hb 0 (by omega)),if_neg (hb 1 (by omega)),if_neg (hb 2 (by omega))]
theorem uD (c d:Cl):(Ig c d).1≤2:=by
 unfold Ig
 split
 ·decide
 ·split
  ·decide
  ·split<;>decide
theorem nQ (c d:Cl) (w:Ag) (hc:c.ok=true) (hd:d.ok=true) (hQ:Qt w):
  Ai Tryz.prog 151 #[.agg #[Aa Ab c.x,Aa Ab c.y,Aa Ac c.q],.agg #[Aa Ab d.x,Aa Ab d.y,Aa Ac d.q]] w (Cg (.tuple #[Aa Ac (Ig c d).1,Aa Ab (Ig c d).2]) w):=by
 have HNB:=Ae (fun(e:Nat) (w':Ag) (hb:Below w.heap.size w w')=>show Ai Tryz.prog 143 #[.agg #[Aa Ab c.x,Aa Ab c.y,Aa Ac c.q],Aa Ac (e:Int)] w' (Cg (.tuple #[.agg #[Aa Ab (Ha c e).1.x,Aa Ab (Ha c e).1.y,Aa Ac ((Ha c e).1.q:Int)],Aa Ab (Ha c e).2]) w')by
  have h:=Ja c.x c.y c.q e w' (by omega) (by omega) (hQ.below hb)
  rwa [aQ]at h)
 have hc1:=fun w'=>Dk c.x c.y c.q w';have hd1:=fun w'=>Dk d.x d.y d.q w';unfold Cl.ok at hc hd;rw[hc]at hc1;rw[hd]at hd1;have HC1:=Ae hc1;have HD1:=Ae hd1;obtain⟨R,hR⟩:=ey (Ig c d);have HR1:=Ae (fun(e:Nat) he h hb=>hR.symm.trans (uC (c:=c) (d:=d) (e:=e) he h hb));have HR2:=Ae (fun hb=>hR.symm.trans (uE (c:=c) (d:=d) hb));rw[hR];obtain⟨x,y,q⟩:=c;obtain⟨x',y',q'⟩:=d;dsimp only at HNB HC1 HD1⊢;have H:=((Bx.start w).new #[Aa Ab x,Aa Ab y,Aa Ac q] 123 rfl).new #[Aa Ab x',Aa Ab y',Aa Ac q'] 123 (N:=w.heap.size+1) (by simp);clear hc hd hQ hc1 hd1 hR;rw[Fo]at HC1 HD1;go_enter Tryz.func151,Tryz.ntmps151;go_upto_region 1 with fail;obtain⟨N,hN⟩:=ez w.heap.size;rw[←hN]at H⊢;have HNN:=Ae hN;clear hN;obtain⟨P,hP⟩:=ey (N+1);rw[hP]at H⊢;clear hP;obtain⟨W1,hW1⟩:=ez ((w.alloc (.cells #[Aa Ab x,Aa Ab y,Aa Ac q] 123)).alloc (.cells #[Aa Ab x',Aa Ab y',Aa Ac q'] 123));rw[←hW1]at H⊢;clear hW1;obtain⟨⟨a0,a1,a2⟩,-⟩:=Ci (H.blk 0 _ _ _ rfl);obtain⟨⟨b0,b1,b2⟩,-⟩:=Ci (H.blk 1 _ _ _ rfl);go_wp2_with fail;refine(HC1.out _).mono ?_;rintro ee w2 ⟨rfl,hb⟩;have H2:=H.call hb;clear a0 a1 a2 b0 b1 b2 hb H;obtain⟨⟨b0,b1,b2⟩,-⟩:=Ci (H2.blk 1 _ _ _ rfl);go_wp2_with fail;refine(HD1.out _).mono ?_;rintro ee w3 ⟨rfl,hb⟩;have H3:=H2.call hb;clear b0 b1 b2 hb H2;go_wp2_with fail
 go_loopw [17] (fun s17 wr=>∃e:Nat,e≤3∧s17= Aa Ac e∧Hid (∀j,j<e→Ha ⟨x,y,q⟩ j≠(⟨x',y',q'⟩,0))∧Hid (Bx w [(N,#[Aa Ab x,Aa Ab y,Aa Ac q],123),(P,#[Aa Ab x',Aa Ab y',Aa Ac q'],123)] wr)) (fun s17 _=>3-(intOf s17).toNat)
 case atStart=>exact⟨0,by omega,rfl,Ae fun j h=>absurd h (Nat.not_lt_zero _),Ae H3⟩
 case round=>
  obtain⟨e,he,rfl,HK,HB⟩:=hrel;clear H3;by_cases hlt:e<3
  ·have q1:(e:Int)<3:=by omega
   have hnb:=HNB.out e;have HA:=Ae (fun h=>HR1.out e hlt h HK.out);obtain⟨⟨⟨n0,n1,n2⟩,er⟩,hn⟩:∃z,Ha ⟨x,y,q⟩ e=z:=⟨_,rfl⟩;rw[hn]at hnb HA;dsimp only at hnb;have HN:=Ae hn;have HNB2:=Ae hnb;clear hn hnb;obtain⟨⟨a0,a1,a2⟩,-⟩:=Ci (HB.out.blk 0 _ _ _ rfl);go_wp2_with fail;refine(HNB2.out _ HB.out.below).mono ?_;rintro ee w4 ⟨rfl,hb⟩;have H4:=HB.out.call hb;clear a0 a1 a2 hb HNB2;obtain⟨X,hX⟩:=ey w4.heap.size;have H5:=H4.new #[Aa Ab n0,Aa Ab n1,Aa Ac (n2:Int)] 123 hX;clear H4 HB;go_upto_region 7 with fail
   try rw[hX]
   obtain⟨W5,hW5⟩:=ez (w4.alloc (.cells #[Aa Ab n0,Aa Ab n1,Aa Ac (n2:Int)] 123));rw[←hW5]at H5⊢;clear hW5;clear hX;obtain⟨⟨e0,e1,e2⟩,-⟩:=Ci (H5.blk 2 _ _ _ rfl);obtain⟨⟨b0,b1,b2⟩,-⟩:=Ci (H5.blk 1 _ _ _ rfl);have HB5:Hid (Bx w [(N,#[Aa Ab x,Aa Ab y,Aa Ac q],123),(P,#[Aa Ab x',Aa Ab y',Aa Ac q'],123)] W5):=Ae (H5.upto 2);clear H5;by_cases heq:n0=x'∧n1=y'∧n2=q'∧er=0
   ·obtain⟨rfl,rfl,rfl,rfl⟩:=heq;have hRR:=HA.out rfl;subst hRR;go_wp2_with fail;refine Af (v:= .tuple #[Aa Ac (e:Int),Aa Ab 0]) (by simp[results,Tryz.results151,go_sem]) rfl ?_;exact⟨rfl,HB5.out.below⟩
   ·have HKN:Hid (∀j,j<e+1→Ha ⟨x,y,q⟩ j≠(⟨x',y',q'⟩,0)):=Ae fun j hj h=>by
     by_cases hje:j=e
     ·subst hje;rw[HN.out]at h;simp at h;exact heq ⟨h.1.1,h.1.2.1,h.1.2.2,h.2⟩
     ·exact HK.out j (by omega) h
    go_wp2_with fail
    all_goals first
     |exact⟨⟨e+1,by omega,by go_num,HKN,HB5⟩,by simp[intOf];omega⟩
     |(exfalso;omega)
     |exact absurd ⟨rfl,rfl,rfl,rfl⟩ heq
     |done
  ·obtain rfl:e=3:=by omega
   have hRR:=HR2.out HK.out;subst hRR;go_wp2_with fail;refine Af (v:= .tuple #[Aa Ac 0,Aa Ab 7]) (by simp[results,Tryz.results151,go_sem]) rfl ?_;exact⟨rfl,HB.out.below⟩
end Go.Proofs.YteoffhpfcgffcaaGreatDoor
