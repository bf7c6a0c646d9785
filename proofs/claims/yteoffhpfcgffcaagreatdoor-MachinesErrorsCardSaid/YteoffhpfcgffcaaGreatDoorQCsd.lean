import Derived.Test.YteoffhpfcgffcaaGreatDoorQOvi
import Derived.Test.YteoffhpfcgffcaaGreatDoorQPim
import Derived.Test.YteoffhpfcgffcaaGreatDoorQCfc
import Derived.Test.YteoffhpfcgffcaaGreatDoorQKnl
open Array renaming getElem?_eq_some_iff→Aq
open Go renaming Calls→Ai,Value→Ah,World→Ag,bodyPost_ret→Af,cell_of_row→Bs,heap_alloc_new→Bt,wpAnyH_done→Ak,wpAnyH_ready→Am,wp_region_held_drew→Al
open Go.AllReadyH renaming cons→An,nil→Ao
open Go.IntKind renaming i64→Ab,u8→Ac
open Go.Lib renaming hid→Ae,wpList_append_run→Ap
open Go.Value renaming int→Aa,slice→Ad
open List renaming append_assoc→Bg,getElem?_eq_getElem→Ar,getElem_cons_succ→Bz,getElem_cons_zero→By,getElem_mem→Au,getElem_toArray→Ca,length_append→Be,length_map→Bk,length_take→Bj,mem_append→Bi,mem_cons→Bh,mem_iff_getElem→Ay,replicate→Aw,setIfInBounds_toArray→Cd,set_cons_succ→Cc,set_cons_zero→Cb,take_of_length_le→Bc,take_succ_eq_append_getElem→Ax
open Nat renaming le_refl→Aj,le_trans→Bo,lt_of_lt_of_le→Bm,zero_add→Bp
set_option maxHeartbeats 16000000
set_option maxRecDepth 100000
namespace Go.Proofs.YteoffhpfcgffcaaGreatDoor
open Go.RowKit Go.Sort
def uV (l:List Stk) (w:Ag) (e:Ending) (w':Ag):Prop:=∃A c zl,e= .returned (Ad A l.length l.length)∧Cv w.heap.size w' (Ad A l.length c) zl∧zl.map (·.1)=l∧Below w.heap.size w w'
theorem Cv.cloned {O O2 n c2:Nat} {w w':Ag} {v:Ah} {A':Option Addr} {zl:List SkR} (h:Cv O w v zl) (hb:Below w.heap.size w w') (hO:O2≤O) (hr:w'.ownsRow O2 125 4 (Ad A' n c2) zl.length (zl.flatMap Ds)):Cv O2 w' (Ad A' n c2) zl:=
 ⟨hr,fun x hx=>((h.below hb).2.1 x hx).base hO,h.2.2⟩
theorem Cv.stksN {O:Nat} {w:Ag} {A:Option Addr} {n c:Nat} {zl:List SkR} {l:List Stk} (h:Cv O w (Ad A n c) zl) (hl:zl.map (·.1)=l):Cs w A l:=hl▸h.stks
theorem bW:∀(zl:List SkR),(∀x∈zl,x.1.c.q≤255)→∃D:List SkE,D.map (·.1)=zl
 |[],_=>⟨[],rfl⟩
 |x::r,h=>by
  obtain⟨D,hD⟩:=bW r fun y hy=>h y (by simp[hy]);exact⟨⟨x,h x (by simp)⟩::D,by rw[List.map_cons,hD]⟩
theorem bV (D:List SkE):D.flatMap skV=(D.map (·.1)).flatMap Ds:=by
 rw[List.flatMap_map];rfl
theorem Yk {O m:Nat} {w w':Ag} {A:Option Addr} {c:Nat} {zl:List SkR} {D l':List SkE} (h:Cv O w (Ad A m c) zl) (hm:m=zl.length) (hD:D.map (·.1)=zl) (hp:l'.Perm D) (hs:l'.Pairwise fun p q=>ltOf bU q p=false)
  (ho:w'.ownsRow O 125 4 (Ad A m c) m (l'.flatMap skV)) (hg:w.grownBy w' (Value.ownBlock (Ad A m c))) (hn:((zl.map (·.1)).map (·.c)).Nodup):
  ∃z2:List SkR,z2.length=m∧z2.map (·.1)=Ih (zl.map (·.1))∧Cv O w' (Ad A m c) z2:=by
 have hpm:(l'.map (·.1)).Perm zl:=hD▸hp.map (·.1);have hl:(l'.map (·.1)).length=m:=by rw[hpm.length_eq,hm]
 refine⟨l'.map (·.1),hl,?_,h.perm hpm (by rw[hl,←bV];exact ho) hg⟩;refine Yo (hpm.map (·.1)) ?_ hn;rw[List.pairwise_map,List.pairwise_map];refine hs.imp fun{p q} hh=>?_;rw[wW,decide_eq_false_iff_not]at hh;exact hh
theorem Ur (A1 A2:Option Addr) (l1 l2:List Stk) (n1 n2 c1 c2:Nat) (w:Ag) (h1:Cs w A1 l1) (h2:Cs w A2 l2) (e1:n1=l1.length) (e2:n2=l2.length) (b1:n1≤10000) (b2:n2≤10000) (ht:El (l1++l2)≤100000) (hq:∀x∈l1++l2,x.c.q≤255):
  Ai Tryz.prog 48 #[Ad A1 n1 c1,Ad A2 n2 c2] w (uV (Ff l1 l2) w):=by
 have HCC:=Ae (fun(w':Ag) (hb:Below w.heap.size w w') (sb:Nat) (hs:sb<w'.heap.size) (q1:w'.cell? ⟨sb,0,none⟩=some (Ad A1 n1 c1)) (q2:w'.cell? ⟨sb,0+1,none⟩=some (Ad A2 n2 c2))=>Vn sb 0 A1 A2 l1 l2 n1 n2 c1 c2 2 w' hs q1 q2 (h1.below hb) (h2.below hb) e1 e2 (by omega) (by omega));have HLF:Hid (Ff l1 l2=Ih (Gj (l1++l2))):=Ae rfl;rw[HLF.out];clear HLF;have hLn:(l1++l2).length=n1+n2:=by rw[Be,e1,e2]
 obtain⟨L,hL⟩:=ey (l1++l2);rw[hL]at HCC ht hq hLn⊢;obtain⟨n,hn⟩:=ey L.length;have hnb:n≤20000:=by omega
 have HN:=Ae hn;have HT:=Ae ht;have HQ:=Ae hq;obtain⟨M,hM⟩:=ey w.heap.size;have HMw:=Ae hM;have hmm:(Instr.makeMap 174 none).run Tryz.prog w= .ok (.map (some w.heap.size)) (w.alloc (.map #[] 0)):=by first|rfl|simp[Instr.makeMap]
 have hmd:=Nx clK w;have hb0:=(Below.refl w.heap.size w).alloc (Aj _) (.map #[] 0);rw[hM]at hmm hmd;clear h1 h2 e1 e2 b1 b2 ht hq hL hLn;go_enter Tryz.func48,Tryz.ntmps48;go_upto_region 2 with fail
 try rw[hM]
 obtain⟨W0,hW0⟩:=ez (w.alloc (.map #[] 0));rw[←hW0]at hmd hb0⊢;clear hW0;clear hmm;have hM0:=hmd.lt;obtain⟨SB,hSB⟩:=ey W0.heap.size;have hbq:=(Below.refl W0.heap.size W0).alloc (Aj _) (.cells #[Ad A1 n1 c1,Ad A2 n2 c2] 41);have hb2:=hb0.alloc hb0.size (.cells #[Ad A1 n1 c1,Ad A2 n2 c2] 41);have hcat:=HCC.out _ hb2 SB (by rw[←hSB];simp) (by rw[←hSB];exact(Cu (Bt W0 _)).1.1) (by rw[←hSB];exact(Cu (Bt W0 _)).1.2);have hmd2:=hmd.below hbq hM0;have HMD:=Ae hmd2;have HB2:=Ae hb2;clear HCC hbq hb2 hmd2 hmd hb0;go_wp2_with fail;refine hcat.mono ?_;rintro ee w3 ⟨A,c,rfl,hst,hb3⟩;have hM3:=HMD.out.below hb3 HMD.out.lt;have hMO:=hM3.lt
 have hmap:∃es c,w3.heap[M]? =some (Obj.map es c):=by
  obtain⟨es,c,h,-⟩:=hM3;exact⟨es,c,h⟩
 have hbw:Below w.heap.size w w3:=HB2.out.trans (hb3.mono HB2.out.size);obtain⟨O,hO⟩:=ey w3.heap.size;rw[hO]at hMO;have HOV:Hid (OvI O M w3 w3 (Ad none 0 0) []):=Ae ⟨Cv.nil _ _,by simp,hM3,Off.refl _ _ _,Nat.le_of_eq hO.symm,hMO⟩;have HST:=Ae (fun(wr:Ag) (k:Off O M w3 wr)=>hst.off (Nat.le_of_eq hO) k hmap);have HBW:=Ae hbw;have HOW:Hid (w.heap.size≤O):=Ae (by have:=hbw.size;omega);rw[hn];clear hcat hst hb3 hM3 hMO hmap hbw hO HMD HB2 hSB hM0 hM;go_wp2_with fail
 go_loopw [18,6] (fun s18 s6 wr=>∃(k m9 c9:Nat) (A9:Option Addr),k≤n∧s18= Aa Ab k∧s6= Ad A9 m9 c9∧m9≤k∧Hid (∃zl:List SkR,zl.length=m9∧zl.map (·.1)=Gj (L.take k)∧OvI O M w3 wr (Ad A9 m9 c9) zl)) (fun s18 _ _=>n-(intOf s18).toNat)
 case atStart=>exact⟨0,0,0,none,by omega,rfl,rfl,Aj _,Ae ⟨[],rfl,rfl,HOV.out⟩⟩
 case round=>
  obtain⟨k,m9,c9,A9,hk,rfl,rfl,hm9,HZ⟩:=hrel;clear HOV;by_cases hlt:k<n
  ·have hkl:k<L.length:=by have:=HN.out;omega
   have q0:(k:Int)<(n:Int):=by omega
   obtain⟨zl,hzl,hzg,hzo⟩:=HZ.out;obtain⟨bb,o',A',c',hAA,hbl,⟨d0,d1,d2,d3⟩,hA',hle,hcm,hrd⟩:=(HST.out _ hzo.off).get k hkl;have hmem:=Au hkl;have hlk:=Bo (Kf hmem) HT.out;have hsn:=fM L k hkl;obtain⟨⟨⟨x0,x1,x2⟩,ids⟩,hx⟩:∃z,L[k]=z:=⟨_,rfl⟩;simp only[hx]at d0 d1 d2 d3 hlk hrd hA' hle hsn;obtain⟨m,hm⟩:=ey ids.length;rw[hm]at d3 hlk hrd hA' hle;have HMD:=Ae hm;have HSN:=Ae hsn;have HRD:=Ae hrd;obtain⟨X,hX⟩:=ey wr.heap.size;have H:=(Bx.start wr).new #[Aa Ab x0,Aa Ab x1,Aa Ac x2,Ad A' m c'] 125 hX;have HZO:=Ae hzo;have HZG:=Ae hzg;have HZL:=Ae hzl;subst hAA;clear hsn hrd hx hm hmem hzo hzg hzl HZ;go_upto_region 6 with fail
   try rw[hX]
   obtain⟨W5,hW5⟩:=ez (wr.alloc (.cells #[Aa Ab x0,Aa Ab x1,Aa Ac x2,Ad A' m c'] 125));rw[←hW5]at H⊢;clear hW5;clear d0 d1 d2 d3;obtain⟨⟨e0,e1,e2,e3⟩,-⟩:=Co (H.blk 0 _ _ _ rfl);have HO5:=Ae (HZO.out.below H.below);by_cases hm0:m=0
   ·subst hm0
    have hG:Gj (L.take (k+1))=Gj (L.take k):=by
     rw[HSN.out,if_pos];have:=List.length_eq_zero_iff.1 HMD.out;subst this;rfl
    have HR:Hid (∃zl:List SkR,zl.length=m9∧zl.map (·.1)=Gj (L.take (k+1))∧OvI O M w3 W5 (Ad A9 m9 c9) zl):=Ae ⟨zl,HZL.out,by rw[hG];exact HZG.out,HO5.out⟩;clear hG;go_wp2_with fail;exact⟨⟨k+1,m9,c9,A9,by omega,by go_num,rfl,by omega,HR⟩,by simp[intOf];omega⟩
   ·have hA1:∃ab ao,A'=some ⟨ab,ao,none⟩:=by
     rcases hA' with⟨-,h0,-⟩|h
     ·exact absurd h0 hm0
     ·exact h
    obtain⟨ab,ao,rfl⟩:=hA1;have q1:((m:Int)==0)=false:=by simpa using hm0
    have hG:Gj (L.take (k+1))=Jb ⟨⟨x0,x1,x2⟩,ids⟩ (Gj (L.take k)):=by
     rw[HSN.out,if_neg];intro hh;have:ids=[]:=by simpa using hh
     exact hm0 (by rw[←HMD.out,this];rfl)
    rw[←HZG.out]at hG;have HG:=Ae hG;have hlu:=Nv iH Tryz.underlying174 (et:=3) (z:= Aa Ab 0) (fun w=>by kernel_rfl) HO5.out.mp ⟨x0,x1,x2⟩ true;rw[qF]at hlu;have HM0:=Ae hm0;clear hG hA' hm0
    cases hp:Lu (⟨x0,x1,x2⟩:Cl) (zl.map (·.1)) 0 with
    |some i=>
     rw[hp]at hlu;simp only[if_true,Option.map_some,Option.getD_some,Option.isSome_some]at hlu;unfold clK at hlu;dsimp only at hlu;obtain⟨hil,hic⟩:=fS hp;have hil:i<zl.length:=by simpa using hil
     have hic:zl[i].1.c=⟨x0,x1,x2⟩:=by simpa using hic
     have hadd:Jb ⟨⟨x0,x1,x2⟩,ids⟩ (zl.map (·.1))=(zl.map (·.1)).set i ⟨⟨x0,x1,x2⟩,zl[i].1.ls++ids⟩:=by
      obtain⟨_,h2⟩:=dF (x:=⟨⟨x0,x1,x2⟩,ids⟩) hp;rw[h2];simp
     have HADD:=Ae hadd;have HIC:=Ae hic;have hq2:i<m9:=by rw[←HZL.out];exact hil
     have q2:(i:Int)<(m9:Int):=by omega
     clear hp hic hadd hq2
     have hnez:0<zl[i].1.ls.length:=by
      have h1:=rX (L.take k);rw[←HZG.out]at h1;exact List.length_pos_iff.2 (h1 _ (List.mem_map.2 ⟨zl[i],Au hil,rfl⟩))
     have htz:zl[i].1.ls.length+m≤1000000:=by
      have h1:zl[i].1.ls.length≤El (zl.map (·.1)):=Kf (List.mem_map.2 ⟨zl[i],Au hil,rfl⟩);rw[HZG.out,Px]at h1;have h2:=nP L k;have h3:=HT.out;omega
     go_upto_region 9 with fail;obtain⟨S,hSd⟩:∃S:Ag→Prop,S=fun W'=>W'.cell? ⟨X,3,none⟩=some (Ad (some ⟨ab,ao,none⟩) m c'):=⟨_,rfl⟩;have HSO:Hid (∀W',S W'→W'.cell? ⟨X,3,none⟩=some (Ad (some ⟨ab,ao,none⟩) m c')):=Ae fun W' h=>by subst hSd;exact h
     have HSA:Hid (∀W',W'.heap[X]? =W5.drew.heap[X]? →S W'):=Ae fun W' h=>by
      subst hSd;show W'.cell? ⟨X,3,none⟩=_;unfold World.cell? at e3⊢;rw[h];exact e3
     have hXl:X<W5.drew.heap.size:=H.lt 0 rfl;have HOY:=Ae (HO5.out.below (Below.refl W5.heap.size W5).drew);have HRY:=Ae (HRD.out.below (H.below.trans ((Below.refl wr.heap.size W5).drew)));refine Al (S:=S) (by kernel_rfl) (HSA.out _ rfl) (fun hS=>?_);obtain⟨Y,hY⟩:=ez W5.drew;rw[←hY]at hS HOY HRY HSA hXl⊢;clear hY;have hk0:=HOY.out.out.2.1 zl[i] (Au hil);obtain⟨G,hA9,hm9z,hGO,hGs,-,-,-,g3⟩:=HOY.out.out.elem i hil;obtain⟨A2,k2,w8,hrun,hx8,hc8,hg8,hA8⟩:=oQ hk0 (HOY.out.cap zl[i] (Au hil)) HOY.out.top hnez ⟨ab,ao,none⟩ m c' ids HMD.out HRY.out htz;subst hA9;obtain⟨hov,⟨u8,hu8⟩,hf8⟩:=HOY.out.poke hil ids A2 k2 hx8 hc8 hg8 hA8
     have hXx:∀g,zl[i].2.1.map (·.block)=some g→g≠X:=fun g hg=>by
      have:=((HZO.out.out.2.1 zl[i] (Au hil)).lt g (by unfold Ey;rw[hg];simp)).2.1;omega
     have hX8:w8.heap[X]? =Y.heap[X]? :=hg8.block X hXl fun e=>hXx X e.symm rfl
     have hGX:X≠G:=by
      have h1:=(HZO.out.out.1.lt G rfl).2;omega
     have HS8:=Ae (HSA.out _ hX8);rw[show(zl[i].1.ls++ids).length=zl[i].1.ls.length+m by rw[Be,HMD.out]]at hov;have HS9:=Ae (HSA.out (w8.setCell ⟨G,i*4+3,none⟩ (Ad A2 (zl[i].1.ls.length+m) k2)) ((Below.heap_setCell w8 ⟨G,i*4+3,none⟩ _ X hGX).trans hX8));have HRUN:=Ae hrun;have HFIN:Hid (∃z2:List SkR,z2.length=m9∧z2.map (·.1)=Gj (L.take (k+1))∧OvI O M w3 (w8.setCell ⟨G,i*4+3,none⟩ (Ad A2 (zl[i].1.ls.length+m) k2)) (Ad (some ⟨G,0,none⟩) m9 c9) z2):=Ae ⟨_,by rw[List.length_set];exact HZL.out,by rw[List.map_set,HG.out,HADD.out,HIC.out],hov⟩;obtain⟨nz,hnz⟩:=ey (zl[i].1.ls.length);obtain⟨Az,hAz⟩:=ey (zl[i].2.1);obtain⟨kz,hkz⟩:=ey (zl[i].2.2);rw[hnz]at HFIN HS9;rw[hnz,hAz,hkz]at g3 HRUN;clear hk0 hx8 hc8 hg8 hA8 hov hXx hX8 hrun hnz hAz hkz HSA HRY hnez htz hGO hGs hm9z HOY hXl;refine Cf 0 ?_;refine Cf 1 ?_;refine Cf 2 ?_;refine Cf 3 ?_;refine Cf 4 ?_;refine Cf 5 ?_;refine Cf 7 ?_;refine Cf 8 ?_;refine rdy 6 (fun K hK=>?_);go_simp;refine hK.out _ _ hS (fun hS=>?_);clear hK K g3;refine rdy 9 (fun K hK=>?_);refine Di (by simp[Region.wanted]) (.tmp 40) (.tmp 42) 61 rfl _ _ (by simp[Act.eval]) (by simp[Act.eval]) _ _ HRUN.out ?_;refine hK.out _ _ HS8.out (fun hS=>?_);clear hK K;refine Cf 10 ?_;refine Cf 11 ?_;refine rdy 12 (fun K hK=>?_);go_simp;refine hK.out _ _ HS9.out (fun hS=>?_);clear hK K hS;refine Ak (by kernel_rfl) ?_ _;go_wp2_with fail;exact⟨⟨k+1,m9,c9,some ⟨G,0,none⟩,by omega,by go_num,rfl,by omega,HFIN⟩,by simp[intOf];omega⟩
    |none=>
     rw[hp]at hlu;simp only[if_true,Option.map_none,Option.getD_none,Option.isSome_none]at hlu;unfold clK at hlu;dsimp only at hlu;have hadd:=(Lj (x:=⟨⟨x0,x1,x2⟩,ids⟩) hp).1;have HADD:=Ae hadd;have HP:=Ae hp;have hmp:=HO5.out.mp
     have hMX:X≠M:=by
      have h1:=HZO.out.low;have h2:=HZO.out.top;omega
     clear hp hadd;go_wp2_with (at_mapUpdate;refine Lh iH Tryz.underlying174 _ rfl _ _ _ rfl M (Gc (zl.map (·.1)) 0) ⟨x0,x1,x2⟩ (Aa Ab (m9:Int)) rfl rfl rfl hmp ?_;intro w9 hk9 hg9;have hX9:w9.heap[X]? =W5.heap[X]? :=hg9.block X (H.lt 0 rfl) (by simpa using hMX);clear e0 e1 e2 e3;obtain⟨⟨e0,e1,e2,e3⟩,-⟩:=Co (hX9.trans (H.blk 0 _ _ _ rfl)));have hsz5:=HZO.out.top;have hb5:=H.below;have hXX:X<W5.heap.size:=H.lt 0 rfl;have hrd9:=HRD.out.off (O:=wr.heap.size) (Aj _) (((Off.refl wr.heap.size M wr).below hb5).put hb5.size hg9) (by obtain⟨es,cl,h,-⟩:=HZO.out.mp;exact⟨es,cl,h⟩);refine(Kd ⟨x0,x1,x2⟩ (some ⟨ab,ao,none⟩) ids m c' w9 HMD.out.symm (.inr ⟨ab,ao,rfl⟩) hrd9 (by omega)).mono ?_;rintro ee w10 ⟨A10,rfl,hA10,hrow10,hb10⟩;dsimp only;have ho9:Cv O w9 (Ad A9 m9 c9) zl:=HO5.out.out.lowM fun g h1 h2=>hg9.block g h2 (by have:=HO5.out.low;simp;omega);have hO9:O≤w9.heap.size:=Bo HO5.out.top hg9.size;have hx10:Gx w9.heap.size w10 (⟨⟨x0,x1,x2⟩,ids⟩,(A10,ids.length)):=⟨hA10,Aj _,by show ids.length≤maxLen;have:=HMD.out;unfold maxLen;omega,hrow10⟩;have hc10:Ml w10 (⟨⟨x0,x1,x2⟩,ids⟩,(A10,ids.length)):=Ml.clip hrow10;obtain⟨A11,c11,A12,c12,w12,hv,hrun,ho12,-,hg12,hO12,-⟩:=ho9.app hO9 hb10 hx10 (by have:=HZL.out;omega);obtain⟨rfl,-,rfl⟩:A9=A11∧m9=zl.length∧c9=c11:=by simpa using hv
     have hov:=HO5.out.snoc HP.out (by rw[HZL.out];exact hk9) hg9 hb10 hx10 hc10 ho12 hg12;rw[HZL.out]at hov hrun;simp only[HMD.out]at hov hrun;have HRUN:=Ae hrun;have HFIN:Hid (∃z2:List SkR,z2.length=m9+1∧z2.map (·.1)=Gj (L.take (k+1))∧OvI O M w3 w12 (Ad A12 (m9+1) c12) z2):=Ae ⟨_,by rw[Be,HZL.out];rfl,by rw[List.map_append,HG.out,HADD.out];rfl,hov⟩;rw[HMD.out];clear hv hrun ho12 hg12 hO12 hov hx10 hc10 ho9 hA10 hrow10 hrd9 hk9 hg9 hX9 e0 e1 e2 e3 hb10;go_wp2_with (at_builtin;refine Ap _ rfl _ _ _ _ rfl _ _ rfl rfl _ _ HRUN.out ?_);go_wp2_with fail;exact⟨⟨k+1,m9+1,c12,A12,by omega,by go_num,rfl,by omega,HFIN⟩,by simp[intOf];omega⟩
  ·obtain⟨W1,rfl⟩:=ez wr;obtain rfl:k=n:=by omega
   have q0:¬(k:Int)<(k:Int):=by omega
   obtain⟨zl,hzl,hzg,hzo⟩:=HZ.out;have ht:L.take k=L:=Bc (by have:=HN.out;omega);rw[ht]at hzg
   have hq:∀x∈zl,x.1.c.q≤255:=fun x hx=>by
    have hm:x.1∈Gj L:=hzg▸List.mem_map.2 ⟨x,hx,rfl⟩;exact Sa L (fun c=>c.q≤255) HQ.out _ hm
   obtain⟨D,hD⟩:=bW zl hq;have hown:=hzo.out.1;rw[hzl,←hD,←bV]at hown;have HSRT:=Ae (bY D W1 hown (by omega));have hb1:Below w.heap.size w W1:=hzo.off.back HBW.out HOW.out (by rw[HMw.out];exact Aj _);obtain⟨F,hF⟩:=ey (Ih (Gj L))
   have hFB:∀x∈F,x.ls.length≤100000:=fun x hx=>by
    have h1:x∈Gj L:=(It _).mem_iff.1 (hF▸hx);have h2:=Kf h1;rw[Px]at h2;exact Bo h2 HT.out
   have HFB:=Ae hFB
   have HFIN:Hid (∀w4,(∃l':List SkE,l'.Perm D∧l'.Pairwise (fun p q=>ltOf bU q p=false)∧w4.ownsRow O 125 4 (Ad A9 m9 c9) m9 (l'.flatMap skV)∧W1.grownBy w4 (Value.ownBlock (Ad A9 m9 c9)))→∃z:List SkR,z.length=m9∧z.map (·.1)=F∧Cv O w4 (Ad A9 m9 c9) z∧Below w.heap.size w w4∧O≤w4.heap.size):=Ae (by
    rintro w4 ⟨l',hp,hs,ho,hg⟩;obtain⟨z2,hz2,hz3,hz4⟩:=Yk hzo.out hzl.symm hD hp hs ho hg (by rw[hzg];exact aR L);have hbs:=hb1.size;exact⟨z2,hz2,by rw[hz3,hzg,hF],hz4,hb1.grown hg hbs (fun g hgv=>Bo HOW.out (hzo.out.1.lt g hgv).1),Bo hzo.top hg.size⟩)
   have HF:=Ae hF;clear hzl hzg hzo ht hq hD hown hb1 hF hFB HST HBW HZ zl;go_wp2_with fail;refine HSRT.out.mono ?_;rintro ee w4 ⟨rfl,hsr⟩;have HZ:=Ae (HFIN.out w4 hsr);clear hsr HFIN HSRT;go_wp2_with fail
   go_loopw [61] (fun s61 wr=>∃j:Nat,j≤m9∧s61= Aa Ab j∧Hid (∃z:List SkR,z.length=m9∧z.map (·.1)=F∧Cv O wr (Ad A9 m9 c9) z∧Below w.heap.size w wr∧O≤wr.heap.size)) (fun s61 _=>m9-(intOf s61).toNat)
   case atStart=>exact⟨0,by omega,rfl,HZ⟩
   case round=>
    obtain⟨j,hj,rfl,HZ2⟩:=hrel;clear HZ;by_cases hlt:j<m9
    ·have q0:(j:Int)<(m9:Int):=by omega
     obtain⟨z,hz1,hz2,hz3,hz4,hz5⟩:=HZ2.out;have hjl:j<z.length:=by omega
     obtain⟨G,rfl,-,hGO,hGs,g0,g1,g2,g3⟩:=hz3.elem j hjl;have hk:=hz3.2.1 z[j] (Au hjl);have hmF:z[j].1∈F:=hz2▸List.mem_map.2 ⟨z[j],Au hjl,rfl⟩;have hlb:=HFB.out _ hmF
     have hsame:∀y:SkR,y.1=z[j].1→(z.set j y).map (·.1)=F:=fun y hy=>by
      rw[List.map_set,hy,←hz2];have e:z[j].1=(z.map (·.1))[j]'(by simpa using hjl):=by rw[List.getElem_map]
      rw[e,List.set_getElem_self]
     obtain⟨⟨⟨⟨x0,x1,x2⟩,ids⟩,A6,k6⟩,hx⟩:∃y,z[j]=y:=⟨_,rfl⟩;rw[hx]at g0 g1 g2 g3 hk hlb hsame;obtain⟨hA6,hle6,hcm6,hrow6⟩:=hk;dsimp only at g0 g1 g2 g3 hA6 hle6 hcm6 hrow6 hlb hsame;obtain⟨m,hm⟩:=ey ids.length;rw[hm]at g3 hA6 hle6 hrow6 hlb;have HMD:=Ae hm;have HCP:=Ae (Kd ⟨x0,x1,x2⟩ A6 ids m k6 wr hm.symm hA6 hrow6.rd (by omega));have HSM:=Ae hsame;have HZ3:=Ae hz3;have HZ4:=Ae hz4;have HZ5:=Ae hz5;have HJL:=Ae hjl;have HZ1:=Ae hz1;have hGw:w.heap.size≤G:=Bo HOW.out hGO;have HGW:=Ae hGw;clear hz1 hz2 hz3 hz4 hz5 hjl hsame hA6 hle6 hcm6 hrow6 hmF hx hm HZ2 hGO hGs hGw;go_wp2_with fail;refine HCP.out.mono ?_;rintro ee w6 ⟨A9',rfl,hA9,hrow9,hb9⟩;dsimp only;have hx9:Gx wr.heap.size w6 (⟨⟨x0,x1,x2⟩,ids⟩,(A9',ids.length)):=⟨hA9,Aj _,by show ids.length≤maxLen;have:=HMD.out;unfold maxLen;omega,hrow9⟩;obtain⟨ucell,ufree,hset⟩:=Qr HZ3.out (i:=j) HJL.out hb9 hx9 HZ5.out;have hsm:=HSM.out (⟨⟨x0,x1,x2⟩,ids⟩,(A9',ids.length)) rfl;rw[HMD.out]at hset hsm⊢;dsimp only at hset;obtain⟨v0,g0⟩:=ucell 0 (by omega);obtain⟨v1,g1⟩:=ucell 1 (by omega);obtain⟨v2,g2⟩:=ucell 2 (by omega);obtain⟨v3,g3⟩:=ucell 3 (by omega);rw[Nat.add_zero]at g0;have z0:=ufree (j*4);have z1:=ufree (j*4+1);have z2:=ufree (j*4+2);have z3:=ufree (j*4+3);have hb6:=HZ4.out.trans (hb9.mono HZ4.out.size);have hgo:=HGW.out;have hbN:Below w.heap.size w ((((w6.setCell ⟨G,j*4,none⟩ (Aa Ab x0)).setCell ⟨G,j*4+1,none⟩ (Aa Ab x1)).setCell ⟨G,j*4+2,none⟩ (Aa Ac x2)).setCell ⟨G,j*4+3,none⟩ (Ad A9' m m)):=(((hb6.setCell (p:=⟨G,j*4,none⟩) hgo _).setCell (p:=⟨G,j*4+1,none⟩) hgo _).setCell (p:=⟨G,j*4+2,none⟩) hgo _).setCell (p:=⟨G,j*4+3,none⟩) hgo _
     have hsz:O≤((((w6.setCell ⟨G,j*4,none⟩ (Aa Ab x0)).setCell ⟨G,j*4+1,none⟩ (Aa Ab x1)).setCell ⟨G,j*4+2,none⟩ (Aa Ac x2)).setCell ⟨G,j*4+3,none⟩ (Ad A9' m m)).heap.size:=by
      have h1:=HZ5.out;have h2:=hb9.size;simp;omega
     have HREL:Hid (∃z:List SkR,z.length=m9∧z.map (·.1)=F∧Cv O ((((w6.setCell ⟨G,j*4,none⟩ (Aa Ab x0)).setCell ⟨G,j*4+1,none⟩ (Aa Ab x1)).setCell ⟨G,j*4+2,none⟩ (Aa Ac x2)).setCell ⟨G,j*4+3,none⟩ (Ad A9' m m)) (Ad (some ⟨G,0,none⟩) m9 c9) z∧Below w.heap.size w ((((w6.setCell ⟨G,j*4,none⟩ (Aa Ab x0)).setCell ⟨G,j*4+1,none⟩ (Aa Ab x1)).setCell ⟨G,j*4+2,none⟩ (Aa Ac x2)).setCell ⟨G,j*4+3,none⟩ (Ad A9' m m))∧O≤((((w6.setCell ⟨G,j*4,none⟩ (Aa Ab x0)).setCell ⟨G,j*4+1,none⟩ (Aa Ab x1)).setCell ⟨G,j*4+2,none⟩ (Aa Ac x2)).setCell ⟨G,j*4+3,none⟩ (Ad A9' m m)).heap.size):=Ae ⟨_,by rw[List.length_set];exact HZ1.out,hsm,hset,hbN,hsz⟩;clear ucell ufree hset hsm hbN hsz hb6 hgo hb9 hrow9 hA9 hx9;go_wp2_with fail;exact⟨⟨j+1,by omega,by go_num,HREL⟩,by simp[intOf];omega⟩
    ·obtain rfl:j=m9:=by omega
     have q0:¬(j:Int)<(j:Int):=by omega
     obtain⟨z,hz1,hz2,hz3,hz4,hz5⟩:=HZ2.out;have hown:=hz3.1;rw[hz1]at hown;obtain⟨A',c',hv,hA',-,-⟩:=Fx hown;obtain⟨rfl,rfl⟩:A9=A'∧c9=c':=by simpa using hv
     have HCL:=Ae (pN A9 j c9 (z.flatMap Ds) wr hA' (Rd.of_own hown) (Vg z) (by omega));have HZ3:=Ae hz3;have HZ4:=Ae hz4;have HZ1:=Ae hz1;have HZ2:=Ae hz2;clear hz1 hz2 hz3 hz4 hz5 hown hv hA';go_wp2_with fail;refine HCL.out.mono ?_;rintro ee w7 ⟨v7,rfl,hown7,hb7⟩;obtain⟨A7,c7,rfl,-,hle7,hcm7⟩:=Fx hown7;have HO7:=Ae hown7;clear hown7;go_wp2_with fail;refine(Xn A7 j c7 w7 hle7 hcm7).mono ?_;rintro ee w8 ⟨rfl,hb8⟩;go_wp2_with fail;go_ret;have hFl:F.length=j:=by rw[←HZ2.out,Bk,HZ1.out]
     rw[HF.out];have hwz:=HZ4.out.size;refine⟨A7,c7,z,by rw[hFl];rfl,?_,HZ2.out,(HZ4.out.trans (hb7.mono HZ4.out.size)).trans (hb8.mono (Bo HZ4.out.size hb7.size))⟩;have h7:=HZ3.out.cloned hb7 HOW.out (by rw[HZ1.out];exact Dr HO7.out hwz);rw[hFl];exact h7.below hb8
end Go.Proofs.YteoffhpfcgffcaaGreatDoor
namespace Go.Proofs.YteoffhpfcgffcaaGreatDoor
open Go.RowKit
structure Hi (b:Nat) (w w':Ag):Prop where
 size:w.heap.size≤w'.heap.size
 blk:∀k,b≤k→k<w.heap.size→w'.heap[k]? =w.heap[k]?
theorem Hi.refl (b:Nat) (w:Ag):Hi b w w:=⟨Aj _,fun _ _ _=>rfl⟩
theorem Hi.trans {b:Nat} {w w1 w2:Ag} (h:Hi b w w1) (h2:Hi b w1 w2):Hi b w w2:=
 ⟨Bo h.size h2.size,fun k hk hl=>(h2.blk k hk (Bm hl h.size)).trans (h.blk k hk hl)⟩
theorem Hi.of {b:Nat} {w w':Ag} (h:Below w.heap.size w w'):Hi b w w':=⟨h.size,fun k _ hl=>h.block k hl⟩
theorem Hi.grown {b:Nat} {w w':Ag} {r:Option Nat} (h:w.grownBy w' r) (hr:∀g,r=some g→g<b):Hi b w w':=
 ⟨h.size,fun k hk hl=>h.block k hl fun e=>by have:=hr k e.symm;omega⟩
theorem Hi.set {b g:Nat} (hg:g<b) (w:Ag) (j:Nat) (v:Ah):Hi b w (w.setCell ⟨g,j,none⟩ v):=
 ⟨by simp,fun k hk _=>Below.heap_setCell w ⟨g,j,none⟩ v k (by show k≠g;omega)⟩
theorem sH {b O sz n:Nat} {e:TypeId} {w w':Ag} {v:Ah} {xs:List Ah} (h:w.ownsRow O e sz v n xs) (hO:b≤O) (hk:Hi b w w'):w'.ownsRow O e sz v n xs:=
 ⟨h.1,h.2.imp id fun⟨g,cap,cur,r1,r2,r3,r⟩=>⟨g,cap,cur,r1,r2,(hk.blk g (Bo hO r2) (Aq.1 r3).1).trans r3,r⟩⟩
theorem Cv.hi {b O:Nat} {w w':Ag} {v:Ah} {l:List SkR} (h:Cv O w v l) (hO:b≤O) (hk:Hi b w w'):Cv O w' v l:=
 ⟨sH h.1 hO hk,fun x hx=>(h.2.1 x hx).same fun g hg=>hk.blk g (Bo hO ((h.2.1 x hx).lt g hg).1) ((h.2.1 x hx).lt g hg).2.1,h.2.2⟩
def La (b:Nat) (w:Ag) (cs:List Ah) (s:St):Prop:=∀w',Hi b w w'→Mq w' cs s
theorem La.st {b:Nat} {w:Ag} {cs:List Ah} {s:St} (h:La b w cs s):Mq w cs s:=h w (Hi.refl _ _)
theorem La.go {b:Nat} {w w':Ag} {cs:List Ah} {s:St} (h:La b w cs s) (hk:Hi b w w'):La b w' cs s:=fun _ h2=>h _ (hk.trans h2)
theorem La.base {b b':Nat} {w:Ag} {cs:List Ah} {s:St} (h:La b w cs s) (hb:b'≤b):La b' w cs s:=
 fun _ h2=>h _ ⟨h2.size,fun k hk=>h2.blk k (Bo hb hk)⟩
theorem yW {b O O2 pc co cc c2:Nat} {w:Ag} {a1 a2:Int} {cr:List Cr} {rt:Mv} {l:List Stk} {e:TypeId} {pA A:Option Addr} {zl:List SkR} (hA:AOk pA cr.length pc) (hp:w.ownsRow O e 3 (Ad pA cr.length co) cr.length (crs cr)) (hO:b≤O)
  (hs:Cv O2 w (Ad A l.length c2) zl) (hz:zl.map (·.1)=l) (hO2:b≤O2):
  La b w [Aa Ab a1,Aa Ab a2,Ad pA cr.length pc,Aa Ac rt.t,Aa Ab rt.x,Aa Ab rt.y,Ad A l.length cc] ⟨a1,a2,cr,rt,l⟩:=
 fun _ hk=>⟨⟨pA,pc,A,cc,rfl,hA,Rd.of_own (sH hp hO hk),(hs.hi hO2 hk).stksN hz⟩⟩
theorem Ab6 {k c:Int} (h:okL k c=true):(ofL k c).ok=true:=by
 obtain⟨h1,h2,h3,h4⟩:=Kv.1 h;unfold Mv.ok ofL
 split
 ·rw[Mf];dsimp only;omega
 ·split
  ·rw[Mf];dsimp only;omega
  ·split
   ·rw[Mf];dsimp only;omega
   ·rw[Mf];dsimp only;omega
theorem Rb (l1 l2:List Stk):El (l1++l2)=El l1+El l2:=by
 unfold El;rw[List.map_append,List.sum_append]
theorem nO {l1 l2:List Stk} (h:l1.Perm l2):El l1=El l2:=(h.map _).sum_nat
theorem uB {l1 l2:List Stk} (h:l1.Sublist l2):El l1≤El l2:=by
 induction h with
 |slnil=>exact Aj _
 |cons x _ ih=>simp[El]at ih⊢;omega
 |cons_cons x _ ih=>simp[El]at ih⊢;omega
theorem gM (K C:Int) (s:Nat) (l:List Stk):(Dh K C s l).Sublist l:=List.filter_sublist
theorem uA (l:List Stk):El (Is l)=El l:=by
 unfold El Is;rw[List.map_map]
 congr 1
 refine List.map_congr_left fun x _=>?_;simp
theorem xX (l:List Stk):(Is l).length=l.length:=by simp[Is]
theorem xY {l:List Stk} {P:Cl→Prop} (h:∀x∈l,P x.c):∀x∈Is l,P x.c:=fun x hx=>by
 obtain⟨y,hy,rfl⟩:=List.mem_map.1 hx;exact h y hy
theorem rR {m:Mv} {l mv:List Stk} (h:Lr m l=some mv):(∀x∈mv,x.c.ok=true)∧El mv=El l∧mv.length=l.length:=by
 unfold Lr at h
 split at h
 ·rename_i ha;injection h with h;have hp:=It (l.map fun x=>(⟨(Gh m x.c).1,x.ls⟩:Stk));rw[h]at hp;refine⟨fun x hx=>?_,?_,by rw[hp.length_eq,Bk]⟩
  ·obtain⟨y,hy,rfl⟩:=List.mem_map.1 (hp.mem_iff.1 hx);have:=List.all_eq_true.1 ha y hy;exact aN (by simpa using this)
  ·rw[nO hp];unfold El;rw[List.map_map];rfl
 ·cases h
theorem mB (l h:List Stk):(Ff l h).length≤l.length+h.length:=by
 have e:Ff l h=Ih (Gj (l++h)):=rfl;rw[e,(It _).length_eq,←Be];exact lK _
theorem sG (l h:List Stk):∀x∈Ff l h,x.ls.length≤El l+El h:=fun x hx=>by
 have e:Ff l h=Ih (Gj (l++h)):=rfl;rw[e]at hx;have h1:=Kf ((It _).mem_iff.1 hx);rw[Px,Rb]at h1;exact h1
theorem xS (l h:List Stk) (P:Cl→Prop) (hl:∀x∈l,P x.c) (hh:∀x∈h,P x.c):∀x∈Ff l h,P x.c:=fun x hx=>by
 have e:Ff l h=Ih (Gj (l++h)):=rfl;rw[e]at hx;refine Sa (l++h) P (fun y hy=>?_) x ((It _).mem_iff.1 hx);rcases Bi.1 hy with hy|hy
 ·exact hl y hy
 ·exact hh y hy
theorem fI {c:Cl} (h:c.ok=true):c.q≤255:=by
 have:=(Er.1 h).2.2.2.2;omega
structure Hh (s:St) (f:Fd):Prop where
 gs:Gs s
 side:f.side≤1
 okl:okL f.k f.c=true
theorem vY {s:St} {f:Fd} (h:Gs s) (ho:Kg f.k f.c f.side=true):Hh s f:=by
 unfold Kg at ho;simp only[Bool.and_eq_true,decide_eq_true_eq]at ho;exact⟨h,by omega,ho.1⟩
section
variable {s:St} {f:Fd}
theorem Hh.sp (h:Hh s f) (j:Nat):(Dh f.k f.c j s.l).length≤1024∧El (Dh f.k f.c j s.l)≤1024∧(∀x∈Dh f.k f.c j s.l,x.c.ok=true)∧∀x∈Dh f.k f.c j s.l,x.ls.length≤1024:=by
 have hs:=gM f.k f.c j s.l;exact⟨Bo hs.length_le h.gs.len,Bo (uB hs) h.gs.tot,fun x hx=>(h.gs.at x (hs.subset hx)).1,fun x hx=>h.gs.ls x (hs.subset hx)⟩
theorem Hh.rv (h:Hh s f):(Is (Dh f.k f.c f.side s.l)).length≤1024∧El (Is (Dh f.k f.c f.side s.l))≤1024∧(∀x∈Is (Dh f.k f.c f.side s.l),x.c.ok=true)∧∀x∈Is (Dh f.k f.c f.side s.l),x.ls.length≤1024:=by
 obtain⟨h1,h2,h3,h4⟩:=h.sp f.side;refine⟨by rw[xX];exact h1,by rw[uA];exact h2,xY (P:=fun c=>c.ok=true) h3,fun x hx=>?_⟩;obtain⟨y,hy,rfl⟩:=List.mem_map.1 hx;have:=h4 y hy;simpa using this
theorem Hh.mvd (h:Hh s f) {mv:List Stk} (hm:s.mv f=some mv):mv.length≤1024∧El mv≤1024∧(∀x∈mv,x.c.ok=true)∧∀x∈mv,x.ls.length≤1024:=by
 obtain⟨h1,h2,h3,h4⟩:=h.rv;have hm':Lr (ofL f.k f.c) (Is (Dh f.k f.c f.side s.l))=some mv:=hm;obtain⟨k1,k2,k3⟩:=rR hm';exact⟨by omega,by omega,k1,fun x hx=>by have:=Kf hx;omega⟩
theorem Hh.up (_h:Hh s f) {l1 l2:List Stk} (a1:l1.length≤1024∧El l1≤1024∧(∀x∈l1,x.c.ok=true)∧∀x∈l1,x.ls.length≤1024) (a2:l2.length≤1024∧El l2≤1024∧(∀x∈l2,x.c.ok=true)∧∀x∈l2,x.ls.length≤1024):
  (Ff l1 l2).length≤2048∧(∀x∈Ff l1 l2,x.ls.length≤2048)∧∀x∈Ff l1 l2,x.c.q≤255:=by
 refine⟨by have:=mB l1 l2;omega,fun x hx=>by have:=sG l1 l2 x hx;omega,fun x hx=>?_⟩;exact xS l1 l2 (fun c=>c.q≤255) (fun y hy=>fI (a1.2.2.1 y hy)) (fun y hy=>fI (a2.2.2.1 y hy)) x hx
theorem Hh.mok (h:Hh s f):(ofL f.k f.c).ok=true:=Ab6 h.okl
theorem Hh.then (h:Hh s f):Fq s.root (ofL f.k f.c)=Ni s.root (ofL f.k f.c):=by
 unfold Fq;rw[h.gs.root,h.mok];rfl
theorem Hh.rtt (h:Hh s f):(s.rt f).1.t≤255:=by
 unfold St.rt
 split
 ·unfold Ni aI
  split
  ·rename_i hok;have h8:=Yf hok;dsimp only at h8⊢;omega
  ·decide
 ·have:=Yf h.gs.root;show s.root.t≤255;omega
end
def stZ:List Ah:=[Aa Ab 0,Aa Ab 0,Ad none 0 0,Aa Ac 0,Aa Ab 0,Aa Ab 0,Ad none 0 0]
def Yw (o:Int×Option St) (w:Ag) (e:Ending) (w':Ag):Prop:=Below w.heap.size w w'∧
 ((o.2=none∧e= .returned (.tuple #[.agg stZ.toArray,Aa Ab o.1]))∨∃t cs,o.2=some t∧e= .returned (.tuple #[.agg cs.toArray,Aa Ab o.1])∧La w.heap.size w' cs t)
theorem Ag6 {s:St} (h:Gs s) (f:Fd):s.do f=s.fold f:=by
 unfold St.do;rw[if_neg (fun hh=>hh h.chk)]
theorem De {w:Ag} {g:Nat} {a b c d e f h:Ah} {t:TypeId} (hg:w.heap[g]? =some (Obj.cells #[a,b,c,d,e,f,h] t (0,0))):
  w.cell? ⟨g,0,none⟩=some a∧w.cell? ⟨g,1,none⟩=some b∧w.cell? ⟨g,2,none⟩=some c∧w.cell? ⟨g,3,none⟩=some d∧w.cell? ⟨g,4,none⟩=some e∧w.cell? ⟨g,5,none⟩=some f∧w.cell? ⟨g,6,none⟩=some h:=by
 refine⟨?_,?_,?_,?_,?_,?_,?_⟩<;>(rw[Bs _ _ _ _ _ (0,0) hg];rfl)
theorem Ym {w:Ag} {A:Option Addr} {l:List (Nat×Nat)} {n:Nat} (h:Rd w A 2 n (Fp l)) (i:Nat) (hi:i<l.length):
  ∃b o,A=some ⟨b,o,none⟩∧b<w.heap.size∧w.cell? ⟨b,o+i*2,none⟩=some (Aa Ab (l[i].1:Int))∧w.cell? ⟨b,o+i*2+1,none⟩=some (Aa Ac (l[i].2:Int)):=by
 have hl:=h.1;rw[gW]at hl;obtain⟨b,o,e,hb,hc⟩:=h.2 (by omega);have hat:∀f,f<2→(Fp l)[i*2+f]? =(cS l[i])[f]? :=fun f hf=>Dc cS 2 (fun _=>rfl) _ i f hi hf;exact⟨b,o,e,hb,hc (i*2+0) _ ((hat 0 (by omega)).trans rfl),hc (i*2+1) _ ((hat 1 (by omega)).trans rfl)⟩
def Rt (s:St) (K C:Int):List Nat:=(Dd s.a s.b s.cr s.root).1.2.map (Gb K C)
def oH (l:List (Nat×Nat)) (ss:List Nat) (w:Ag) (e:Ending) (w':Ag):Prop:=
 ∃A cA B,e= .returned (.tuple #[Ad A l.length cA,Ad B ss.length ss.length,Aa Ab 0])∧Rd w' A 2 l.length (Fp l)∧Rd w' B 1 ss.length (Cz ss)∧Below w.heap.size w w'
def sL (s:St) (K C:Int) (u:Nat×Nat):Bool:=decide (Gb K C (s.img u.1)≠Gb K C (s.img (nbI s.a s.b u.1 u.2).1.toNat))&&decide (Fw s.cr u.1 u.2=0)
theorem aZ (s:St) (K C:Int):Hc s K C=(Eb s.a s.b).filter (sL s K C):=rfl
theorem Zq {α:Type} (p:α→Bool) (l:List α) (k:Nat) (h:k<l.length):(l.take (k+1)).filter p=if p l[k]then (l.take k).filter p++[l[k]]else (l.take k).filter p:=by
 rw[Ax h,List.filter_append];by_cases hs:p l[k]=true
 ·simp[hs]
 ·simp[hs]
theorem Wz {s:St} (K C:Int) (i:Nat) (hi:i<(Dd s.a s.b s.cr s.root).1.2.length):(Rt s K C)[i]? =some (Gb K C (s.img i)):=by
 unfold Rt St.img;rw[List.getElem?_map,List.getD_eq_getElem?_getD,Ar hi];rfl
theorem nH {l:List Nat} {n k:Nat} (h:l.length=n) (hk:k<n) (v:Nat) (hv:l[k]? =some v):(l.take k++Aw (n-k) 0).set k v=l.take (k+1)++Aw (n-(k+1)) 0:=by
 have hl:(l.take k).length=k:=by rw[Bj];omega
 rw[List.set_append_right _ _ (by omega),hl,Nat.sub_self,show n-k=(n-(k+1))+1 by omega,List.replicate_succ,Cb];rw[List.take_add_one,hv];simp
def Vu (a b:Int) (pA:Option Addr) (pn pc rt:Nat) (rx ry K C:Int) (sv:Ah) (N P G2 G3:Nat) (is:List Cl) (r:List Nat):List (Nat×Array Ah×TypeId):=
 [(N,#[Aa Ab a,Aa Ab b,Ad pA pn pc,Aa Ac rt,Aa Ab rx,Aa Ab ry,sv],43),(P,#[Aa Ac K,Aa Ab C],51),(G2,(Ej is).toArray,123),(G3,(Cz r).toArray,3)]
theorem fR (s:St) (pA:Option Addr) (pc:Nat) (sv:Ah) (K C:Int) (w:Ag) (hs:Gs s) (hpr:Rd w pA 3 s.cr.length (crs s.cr)) (hL:okL K C=true) (hQ:Qf w) (hT:Tn w) (hsv:sv.oneCell'=true):
  Ai Tryz.prog 50 #[.agg #[Aa Ab s.a,Aa Ab s.b,Ad pA s.cr.length pc,Aa Ac s.root.t,Aa Ab s.root.x,Aa Ab s.root.y,sv],.agg #[Aa Ac K,Aa Ab C]] w (oH (Hc s K C) (Rt s K C) w):=by
 have hrt:=Yf hs.root;have HIM:=Ae (fun(w':Ag) (hb:Below w.heap.size w w')=>Lo s.a s.b pA s.cr s.cr.length pc s.root w' hs.pat rfl (hpr.below hb) hs.pat.len (by omega) (hQ.below hb) (hT.below hb));have HUN:=Ae (fun(w':Ag) (hb:Below w.heap.size w w')=>cU s.a s.b w' hs.pat.sheet ((hQ.below hb).qt));have HNB:=Ae (fun(w':Ag) (hb:Below w.heap.size w w') (i e:Int) (he:0≤e)=>Ea s.a s.b i e w' hs.pat.sheet he ((hQ.below hb).qt));have HKD:=Ae (fun(w':Ag) (hb:Below w.heap.size w w') (i e:Nat) (hu:isU s.a s.b i e=true) (hi:i<1024) (he:e<3)=>Xy s.a s.b pA s.cr s.cr.length pc i e i w' rfl (hpr.below hb) hs.pat ((hQ.below hb).qt) (Uh hu) (by omega) (by omega));have HSD:=Ae (fun(w':Ag) (hb:Below w.heap.size w w') (c:Cl) (hc:c.ok=true)=>Rz K C c w' hL hc (hQ.below hb));have hbo:=hs.both;obtain⟨-,hil,-,hiok⟩:=Gq hbo;have HSG:=Ae (fun(i:Nat) hi=>Wz (s:=s) K C i hi);have HPE:=aZ s K C;have HPU:=Ae (fun(u:Nat×Nat)=>show sL s K C u=(decide (Gb K C (s.img u.1)≠Gb K C (s.img (nbI s.a s.b u.1 u.2).1.toNat))&&decide (Fw s.cr u.1 u.2=0))from rfl);have HUB:=Ae (fun(u:Nat×Nat) (h:u∈Eb s.a s.b)=>Oh hs.pat.sheet h)
 have HNL:=Ae (fun(u:Nat×Nat) (h:isU s.a s.b u.1 u.2=true)=>show 0≤(nbI s.a s.b u.1 u.2).1∧(nbI s.a s.b u.1 u.2).1.toNat<Cq s.a s.b∧(nbI s.a s.b u.1 u.2).2=0 by
  unfold isU at h;simp only[Bool.and_eq_true,decide_eq_true_eq]at h;have h1:=Uq hs.pat.sheet h.1;have h2:=(Fc hs.pat.sheet).1;exact⟨h1.1,by omega,h.1⟩)
 have HCI:=Fc hs.pat.sheet;have HSE:=Ae (show Rt s K C=(Dd s.a s.b s.cr s.root).1.2.map (Gb K C)from rfl);rw[HPE];clear HPE;obtain⟨cnt,hcnt⟩:=ey (Cq s.a s.b);have HUM:=Ae (fun(u:Nat×Nat) (h:u∈Eb s.a s.b)=>(Hs h).2.1);unfold Eb at HUM;rw[hcnt]at hil HNL HCI;obtain⟨PU,hPU⟩:=ey (sL s K C);rw[hPU]at HPU⊢;obtain⟨SS,hSS⟩:=ey (Rt s K C);rw[hSS]at HSG HSE⊢;obtain⟨⟨⟨ms,is⟩,er⟩,hbF⟩:∃z,Dd s.a s.b s.cr s.root=z:=⟨_,rfl⟩;rw[hbF]at HIM hbo hil hiok HSG HSE;dsimp only at HIM hbo hil hiok HSG HSE;subst hbo;rw[hil]at HIM HSG;obtain⟨a,b,cr,root,sl⟩:=s;obtain⟨rt,rx,ry⟩:=root;dsimp only at*;obtain⟨US,hUS⟩:=ey (Eb a b)
 have hUM2:∀u∈US,3*u.1+u.2<3*cnt:=fun u hu=>by
  have:=HUM.out u (by unfold Eb at hUS;rw[hUS];exact hu);rw[hcnt]at this;exact this
 have HUM2:=Ae hUM2;rw[hUS]at HUN HUB⊢;obtain⟨pn,hpn⟩:=ey cr.length;rw[hpn]at HIM HKD⊢;have H:=((Bx.start w).new #[Aa Ab a,Aa Ab b,Ad pA pn pc,Aa Ac rt,Aa Ab rx,Aa Ab ry,sv] 43 rfl).new #[Aa Ac K,Aa Ab C] 51 (N:=w.heap.size+1) (by simp)
 have HUL:Hid (US.length≤3072):=Ae (by
  have h1:=Hq a b (3*Cq a b);rw[hcnt]at h1;unfold Eb at hUS;rw[hcnt,]at hUS;rw[←hUS];omega)
 have HIL:=Ae hil;have HIO:=Ae hiok;have HCN:=Ae HCI;have HSV:=Ae hsv;clear HCI hs hpr hQ hT hrt hUM2 HUM hUS hpn hil hiok hcnt hPU hSS hbF hsv;go_enter Tryz.func50,Tryz.ntmps50;go_upto_region 1 with fail;obtain⟨N,hN⟩:=ez w.heap.size;rw[←hN]at H⊢;have HNN:=Ae hN;clear hN;obtain⟨P,hP⟩:=ey (N+1);rw[hP]at H⊢;clear hP;obtain⟨W1,hW1⟩:=ez ((w.alloc (.cells #[Aa Ab a,Aa Ab b,Ad pA pn pc,Aa Ac rt,Aa Ab rx,Aa Ab ry,sv] 43)).alloc (.cells #[Aa Ac K,Aa Ab C] 51));rw[←hW1]at H⊢;clear hW1;obtain⟨a0,a1,a2,a3,a4,a5,a6⟩:=De (H.blk 0 _ _ _ rfl);go_wp2_with fail;refine(HIM.out _ H.below).mono ?_;rintro ee w2 ⟨hb,⟨h0,-⟩|⟨-,G2,rfl,hge,hG2⟩⟩
 ·exact absurd rfl h0
 have H2:=H.join hb hge hG2;clear a0 a1 a2 a3 a4 a5 a6 hb hge hG2 H HIM;obtain⟨hc1,hc2,hc3⟩:=HCN.out;have hmk:=Mz cnt hc3 w2;obtain⟨G3,hG3⟩:=ey w2.heap.size;have H3:=H2.new (Cz (Aw cnt 0)).toArray 3 hG3;rw[hG3]at hmk;clear H2 hc1 hc2 hc3;go_upto_region 5 with fail
 try rw[hG3]
 obtain⟨W4,hW4⟩:=ez (w2.alloc (.cells (Cz (Aw cnt 0)).toArray 3));rw[←hW4]at H3⊢;clear hW4;have HL0:Hid (Bx w (Vu a b pA pn pc rt rx ry K C sv N P G2 G3 is (SS.take 0++Aw (cnt-0) 0)) W4):=Ae H3;have HSL:Hid (SS.length=cnt):=Ae (by rw[HSE.out,Bk,HIL.out]);have HSM:Hid (∀(i:Nat) (h:i<is.length),SS[i]? =some (Gb K C is[i])):=Ae fun i h=>by rw[HSE.out,List.getElem?_map,Ar h];rfl
 clear hmk hG3 H3;have hcb:cnt≤1024:=HCN.out.2.2;have hnb:US.length≤3072:=HUL.out;go_wp2_with fail
 go_loopw [36] (fun s36 wr=>∃k:Nat,k≤cnt∧s36= Aa Ab k∧Hid (Bx w (Vu a b pA pn pc rt rx ry K C sv N P G2 G3 is (SS.take k++Aw (cnt-k) 0)) wr)) (fun s36 _=>cnt-(intOf s36).toNat)
 case atStart=>exact⟨0,by omega,rfl,HL0⟩
 case round=>
  obtain⟨k,hk,rfl,HH⟩:=hrel;clear HL0;by_cases hlt:k<cnt
  ·have q0:(k:Int)<(cnt:Int):=by omega
   have hil:k<is.length:=by have:=HIL.out;omega
   obtain⟨b9,o9,e9,-,d0,d1,d2⟩:=Sj (Gv (HH.out.blk 2 _ _ _ rfl) (Gm is)) k hil;obtain⟨rfl,rfl⟩:G2=b9∧0=o9:=by simpa using e9
   rw[Bp]at d0 d1 d2;have hok:=HIO.out is[k] (Au hil);have hss:=HSM.out k hil;obtain⟨⟨x0,x1,x2⟩,hx⟩:=ey (is[k]);rw[hx]at d0 d1 d2 hok hss;dsimp only at d0 d1 d2;obtain⟨sd,hsd⟩:=ey (Gb K C ⟨x0,x1,x2⟩);have HSD2:=Ae (fun(w':Ag) (hb:Below w.heap.size w w')=>HSD.out w' hb ⟨x0,x1,x2⟩ hok);rw[hsd]at HSD2 hss;dsimp only at HSD2;have hfill:=nH HSL.out hlt sd hss;have HFL:=Ae hfill;obtain⟨X,hX⟩:=ey wr.heap.size;have H:=HH.out.new #[Aa Ab x0,Aa Ab x1,Aa Ac x2] 123 hX;clear hx hsd hok hss hfill;go_upto_region 8 with fail
   try rw[hX]
   obtain⟨W5,hW5⟩:=ez (wr.alloc (.cells #[Aa Ab x0,Aa Ab x1,Aa Ac x2] 123));rw[←hW5]at H⊢;clear hW5;clear d0 d1 d2 hX;obtain⟨⟨e0,e1,e2⟩,-⟩:=Ci (H.blk 4 _ _ _ rfl);obtain⟨⟨b0,b1⟩,-⟩:=Cu (H.blk 1 _ _ _ rfl);go_wp2_with fail;refine(HSD2.out _ H.below).mono ?_;rintro ee w6 ⟨rfl,hb⟩;have H6:=H.call hb;clear e0 e1 e2 b0 b1 hb H HSD2;have hg3:=H6.blk 3 _ _ _ rfl;have hfz:w6.frozen? ⟨G3,k,none⟩=false:=by simp[World.frozen?,hg3]
   have hcl:∃u,w6.cell? ⟨G3,k,none⟩=some u:=by
    refine⟨_,(Bs w6 G3 k _ _ (0,0) hg3).trans (Array.getElem?_eq_getElem (i:=k) ?_)⟩;have:=HSL.out;simp[Cz];omega
   obtain⟨u9,hcl⟩:=hcl;have H7:=H6.set 3 k rfl (Aa Ab sd);rw[iU,HFL.out]at H7;have HR:Hid (Bx w (Vu a b pA pn pc rt rx ry K C sv N P G2 G3 is (SS.take (k+1)++Aw (cnt-(k+1)) 0)) (w6.setCell ⟨G3,k,none⟩ (Aa Ab (sd:Int)))):=Ae (H7.upto 4);clear hg3 H6 H7;go_wp2_with fail;exact⟨⟨k+1,by omega,by go_num,HR⟩,by simp[intOf];omega⟩
  ·obtain rfl:k=cnt:=by omega
   obtain⟨cnt,rfl⟩:=ez k;have q0:¬(cnt:Int)<(cnt:Int):=by omega
   obtain⟨WY,rfl⟩:=ez wr
   have hSS:SS.take cnt++Aw (cnt-cnt) 0=SS:=by
    rw[Nat.sub_self,List.replicate_zero,List.append_nil,Bc (by have:=HSL.out;omega)]
   have H:=HH.out;rw[hSS]at H;clear hSS HH;obtain⟨a0,a1,a2,a3,a4,a5,a6⟩:=De (H.blk 0 _ _ _ rfl);go_wp2_with fail;refine(HUN.out _ H.below).mono ?_;rintro ee w5 ⟨AU,rfl,hrow,hb⟩;have H5:=H.call hb;clear a0 a1 a2 a3 a4 a5 a6 hb H HUN;obtain⟨nu,hnu⟩:=ey US.length;rw[hnu]at hrow⊢;obtain⟨O,hO⟩:=ey w5.heap.size;have HUR:=Ae (fun(wr:Ag) (hb:Below O w5 wr)=>show Rd wr AU 2 nu (Fp US)from hrow.rd.below (by rw[hO];exact hb));have HL0:Hid (Bx w (Vu a b pA pn pc rt rx ry K C sv N P G2 G3 is SS) w5∧O≤w5.heap.size∧Below O w5 w5∧((US.take 0).filter PU).length=0∧w5.ownsRow O 91 2 (Ad none 0 0) 0 (Fp ((US.take 0).filter PU))):=Ae ⟨H5,by omega,Below.refl _ _,rfl,⟨rfl,.inl ⟨rfl,rfl⟩⟩⟩;have HNU:=Ae hnu;have hnub:nu≤3072:=by omega
   have HLO:Hid (∀x∈Vu a b pA pn pc rt rx ry K C sv N P G2 G3 is SS,x.1<O):=Ae (by
    intro x hx;obtain⟨i,hi,rfl⟩:=Ay.1 hx;rw[←hO];exact H5.lt i (Ar hi))
   have HWO:Hid (w.heap.size≤O):=Ae (by have:=H5.below.size;omega);clear hrow hnu hO H5;go_wp2_with fail
   go_loopw [66,13] (fun s66 s13 wr=>∃(k2 m9 c9:Nat) (A9:Option Addr),k2≤nu∧s66= Aa Ab k2∧s13= Ad A9 m9 c9∧m9≤k2∧Hid (Bx w (Vu a b pA pn pc rt rx ry K C sv N P G2 G3 is SS) wr∧O≤wr.heap.size∧Below O w5 wr∧((US.take k2).filter PU).length=m9∧wr.ownsRow O 91 2 (Ad A9 m9 c9) m9 (Fp ((US.take k2).filter PU)))) (fun s66 _ _=>nu-(intOf s66).toNat)
   case atStart=>exact⟨0,0,0,none,by omega,rfl,rfl,Aj _,HL0⟩
   case round=>
    obtain⟨k2,m9,c9,A9,hk2,rfl,rfl,hm9,HZ⟩:=hrel;clear HL0;by_cases hlt:k2<nu
    ·have q0:(k2:Int)<(nu:Int):=by omega
     have hul:k2<US.length:=by have:=HNU.out;omega
     obtain⟨hB,hO,hb5,hml,hown⟩:=HZ.out;obtain⟨bu,ou,hAU,-,d0,d1⟩:=Ym (HUR.out _ hb5) k2 hul;obtain⟨he3,hi1,hiu⟩:=HUB.out US[k2] (Au hul);have hi3:=HUM2.out US[k2] (Au hul);have hnl:=HNL.out US[k2] hiu;have hfs:=Zq PU US k2 hul;have hpu:=HPU.out US[k2];obtain⟨⟨i,e⟩,hu⟩:=ey (US[k2]);rw[hu]at d0 d1 he3 hi1 hiu hi3 hnl hfs hpu;dsimp only at d0 d1 he3 hi1 hiu hi3 hnl hpu;have hic:i<cnt:=by omega
     obtain⟨hn0,hnc,hne⟩:=hnl;have hnb:=fun(w':Ag) (hb:Below w.heap.size w w')=>HNB.out w' hb i e (by omega);obtain⟨⟨nn,ne⟩,hnn⟩:=ey (nbI a b (i:Int) (e:Int));rw[hnn]at hn0 hnc hne hnb hpu;dsimp only at hn0 hnc hne hpu;subst hne;unfold Ug at hnb;dsimp only at hnb;obtain⟨n,rfl⟩:∃n:Nat,nn=(n:Int):=⟨nn.toNat,by omega⟩;rw[Int.toNat_natCast]at hnc hpu;have HSI:=HSG.out i hic;have HSN:=HSG.out n hnc;obtain⟨s1,hs1⟩:=ey (Gb K C (St.img ⟨a,b,cr,⟨rt,rx,ry⟩,sl⟩ i));obtain⟨s2,hs2⟩:=ey (Gb K C (St.img ⟨a,b,cr,⟨rt,rx,ry⟩,sl⟩ n));rw[hs1]at HSI hpu;rw[hs2]at HSN hpu;have HKN:=Ae (fun(w':Ag) (hb:Below w.heap.size w w')=>HKD.out w' hb i e hiu hi1 he3);obtain⟨kk,hkk⟩:=ey (Fw cr (i:Int) (e:Int));rw[hkk]at HKN hpu;have HNBR:=Ae hnb;have HFS:=Ae hfs;have HPW:=Ae hpu;have HOW:=Ae hown;have HML:=Ae hml;have HB5:=Ae hb5;have HO2:=Ae hO;have q1:(i:Int)<(cnt:Int):=by omega
     have q2:(n:Int)<(cnt:Int):=by omega
     have hmc:m9≤3072:=by
      have h1:=HUL.out;omega
     obtain⟨X,hX⟩:=ey wr.heap.size;have H:=hB.new #[Aa Ab (i:Int),Aa Ac (e:Int)] 91 hX;subst hAU;clear hnn hn0 hnc hs1 hs2 hkk hnb hfs hpu hown hml hb5 hO hB hu hul hi3 hiu hic HZ;have hbq:=(Below.refl wr.heap.size wr).alloc (Aj _) (.cells #[Aa Ab (i:Int),Aa Ac (e:Int)] 91);go_upto_region 19 with fail
     try rw[hX]
     obtain⟨W6,hW6⟩:=ez (wr.alloc (.cells #[Aa Ab (i:Int),Aa Ac (e:Int)] 91));rw[←hW6]at H hbq⊢;clear hW6;clear d0 d1;obtain⟨⟨x0,x1⟩,-⟩:=Cu (H.blk 4 _ _ _ rfl);obtain⟨a0,a1,a2,a3,a4,a5,a6⟩:=De (H.blk 0 _ _ _ rfl);go_wp2_with fail;refine(HNBR.out _ H.below).mono ?_;rintro ee w7 ⟨rfl,hb⟩;have H7:=H.call hb;have hbq7:=hbq.trans (hb.mono hbq.size);clear x0 x1 a0 a1 a2 a3 a4 a5 a6 hb H hbq HNBR;obtain⟨⟨x0,x1⟩,-⟩:=Cu (H7.blk 4 _ _ _ rfl);have hrS:=Gv (H7.blk 3 _ _ _ rfl) (show(Cz SS).length=cnt*1 by rw[Fv,HSL.out,Nat.mul_one]);obtain⟨b9,o9,e9,-,y1⟩:=Km hrS i (by rw[HSL.out];omega);obtain⟨rfl,rfl⟩:G3=b9∧0=o9:=by simpa using e9
     obtain⟨b8,o8,e8,-,y2⟩:=Km hrS n (by rw[HSL.out];omega);obtain⟨rfl,rfl⟩:G3=b8∧0=o8:=by simpa using e8
     have hs1:SS[i]'(by rw[HSL.out];omega)=s1:=by
      have:=HSI;rw[Ar (by rw[HSL.out];omega)]at this;simpa using this
     have hs2:SS[n]'(by rw[HSL.out];omega)=s2:=by
      have:=HSN;rw[Ar (by rw[HSL.out];omega)]at this;simpa using this
     rw[hs1,Bp]at y1;rw[hs2,Bp]at y2;clear hrS e9 e8 hs1 hs2 HSI HSN;by_cases hse:s1=s2
     ·subst hse
      have hF:(US.take (k2+1)).filter PU=(US.take k2).filter PU:=by
       rw[HFS.out,HPW.out];simp
      have HR:Hid (∀q,Bx w (Vu a b pA pn pc rt rx ry K C sv N P G2 G3 is SS) (w7.drewN q)∧O≤(w7.drewN q).heap.size∧Below O w5 (w7.drewN q)∧((US.take (k2+1)).filter PU).length=m9∧(w7.drewN q).ownsRow O 91 2 (Ad A9 m9 c9) m9 (Fp ((US.take (k2+1)).filter PU))):=Ae (fun q=>by
       rw[hF];exact⟨(H7.upto 4).drewN q,Bo HO2.out hbq7.size,Cp (HB5.out.trans (hbq7.mono HO2.out)) q,HML.out,Ck HOW.out (Aj _) (Cp hbq7 q)⟩)
      clear hF;go_upto_region 20 with fail
      go_quiet (fail)
      go_wp2_with fail;exact⟨⟨k2+1,m9,c9,A9,by omega,by go_num,rfl,by omega,Ae (HR.out _)⟩,by simp[intOf];omega⟩
     ·have hse2:((s1:Int)==(s2:Int))=false:=by rw[beq_eq_false_iff_ne];omega
      go_upto_region 20 with fail
      go_quiet (fail)
      have H8:=H7.drewN nq;have hbq8:=Cp hbq7 nq;obtain⟨W8,hW8⟩:=ez (w7.drewN nq);rw[←hW8]at H8 hbq8⊢;clear hW8 H7 hbq7 x0 x1 y1 y2;obtain⟨⟨x0,x1⟩,-⟩:=Cu (H8.blk 4 _ _ _ rfl);obtain⟨a0,a1,a2,a3,a4,a5,a6⟩:=De (H8.blk 0 _ _ _ rfl);go_wp2_with fail;refine(HKN.out _ H8.below).mono ?_;rintro ee w9 ⟨rfl,hb⟩;have H9:=H8.call hb;have hbq9:=hbq8.trans (hb.mono hbq8.size);clear x0 x1 a0 a1 a2 a3 a4 a5 a6 hb H8 hbq8 HKN;obtain⟨⟨x0,x1⟩,-⟩:=Cu (H9.blk 4 _ _ _ rfl);have hO9:O≤w9.heap.size:=Bo HO2.out hbq9.size;have hown9:=Ck HOW.out (Aj _) hbq9;have hb59:=HB5.out.trans (hbq9.mono HO2.out);have hB9:Bx w (Vu a b pA pn pc rt rx ry K C sv N P G2 G3 is SS) w9:=H9.upto 4;by_cases hk0:kk=0
      ·subst hk0
       have hF:(US.take (k2+1)).filter PU=(US.take k2).filter PU++[(i,e)]:=by
        rw[HFS.out,HPW.out];simp[hse]
       obtain⟨A',c',w10,hrun,ho10,hb10,hg10,hO10,-⟩:=Pa (sl:=129) Tryz.underlying129 Ue rfl (by decide) (by decide) w9 O m9 (Ad A9 m9 c9) _ hown9 hO9 (by omega) [Aa Ab (i:Int),Aa Ac (e:Int)] rfl (by simp[Value.oneCell']);have HRUN:=Ae hrun
       have HR:Hid (Bx w (Vu a b pA pn pc rt rx ry K C sv N P G2 G3 is SS) w10∧O≤w10.heap.size∧Below O w5 w10∧((US.take (k2+1)).filter PU).length=m9+1∧w10.ownsRow O 91 2 (Ad A' (m9+1) c') (m9+1) (Fp ((US.take (k2+1)).filter PU))):=Ae (by
        rw[hF,Sp];exact⟨hB9.keepN HLO.out HWO.out hb10,hO10,hb59.trans hb10,by rw[Be,HML.out];rfl,ho10⟩)
       clear hrun ho10 hb10 hg10 hO10 hF hown9 hO9 hb59 hB9 H9 hbq9;go_wp2_with (at_builtin;refine Ap _ rfl _ _ _ _ rfl _ _ rfl rfl _ _ HRUN.out ?_);go_wp2_with fail;exact⟨⟨k2+1,m9+1,c',A',by omega,by go_num,rfl,by omega,HR⟩,by simp[intOf];omega⟩
      ·have hF:(US.take (k2+1)).filter PU=(US.take k2).filter PU:=by
        rw[HFS.out,HPW.out];simp[hk0]
       have hk2:(kk==0)=false:=by simpa using hk0
       have HR:Hid (Bx w (Vu a b pA pn pc rt rx ry K C sv N P G2 G3 is SS) w9∧O≤w9.heap.size∧Below O w5 w9∧((US.take (k2+1)).filter PU).length=m9∧w9.ownsRow O 91 2 (Ad A9 m9 c9) m9 (Fp ((US.take (k2+1)).filter PU))):=Ae (by
        rw[hF];exact⟨hB9,hO9,hb59,HML.out,hown9⟩)
       clear hF hown9 hO9 hb59 hB9 H9 hbq9;go_wp2_with fail;exact⟨⟨k2+1,m9,c9,A9,by omega,by go_num,rfl,by omega,HR⟩,by simp[intOf];omega⟩
    ·obtain rfl:k2=nu:=by omega
     have q0:¬(k2:Int)<(k2:Int):=by omega
     obtain⟨hB,hO,hb5,hml,hown⟩:=HZ.out;have ht:US.take k2=US:=Bc (by have:=HNU.out;omega);rw[ht]at hml hown;have hrS:=Gv (hB.blk 3 _ _ _ rfl) (show(Cz SS).length=cnt*1 by rw[Fv,HSL.out,Nat.mul_one]);have HFIN:Hid (oH (US.filter PU) SS w (.returned (.tuple #[Ad A9 m9 c9,Ad (some ⟨G3,0,none⟩) cnt cnt,Aa Ab 0])) wr):=Ae ⟨A9,c9,some ⟨G3,0,none⟩,by rw[hml,HSL.out],by rw[hml];exact Rd.of_own hown,by rw[HSL.out];exact hrS,hB.below⟩;clear hB hO hb5 hml hown ht hrS HZ;go_wp2_with fail;refine Af (v:= .tuple #[Ad A9 m9 c9,Ad (some ⟨G3,0,none⟩) cnt cnt,Aa Ab 0]) (by simp[results,Tryz.results50,go_sem]) rfl ?_;exact HFIN.out
theorem dW (id Ub Fb:Nat) (U:Option Addr) (nu cu:Nat) (up:List Bool) (over:Bool) (w:Ag) (hn:nu=up.length) (h:Rd w U 1 nu (Cx up)) (hid:id<nu) (hU:w.cell? ⟨Ub,0,none⟩=some (Ad U nu cu)) (hF:w.cell? ⟨Fb,3,none⟩=some (.bool over)):
  Ai Tryz.prog 58 #[Aa Ab (id:Int),.pointer (some ⟨Ub,0,none⟩),.pointer (some ⟨Fb,0,none⟩)] w (Cg (Aa Ac (if up.getD id false=over then 2 else 1)) w):=by
 obtain⟨b,o,rfl,hbl,u0⟩:=jK h id (by omega)
 have hg:up.getD id false=up[id]'(by omega):=by
  rw[List.getD_eq_getElem?_getD,Ar (by omega)];rfl
 rw[hg];obtain⟨v,hv⟩:=ey (up[id]'(by omega));rw[hv]at u0⊢;obtain⟨R,hR⟩:∃z:Int,(if v=over then 2 else 1)=z:=⟨_,rfl⟩;rw[hR];have HR:=Ae hR;have q0:(id:Int)<(nu:Int):=by omega
 obtain⟨S,hSd⟩:∃S:Ag→Prop,S=fun W'=>W'.cell? ⟨Ub,0,none⟩=some (Ad (some ⟨b,o,none⟩) nu cu)∧W'.cell? ⟨b,o+id,none⟩=some (.bool v)∧W'.cell? ⟨Fb,3,none⟩=some (.bool over):=⟨_,rfl⟩;have HSO:Hid (∀W',S W'→W'.cell? ⟨Ub,0,none⟩=some (Ad (some ⟨b,o,none⟩) nu cu)∧W'.cell? ⟨b,o+id,none⟩=some (.bool v)∧W'.cell? ⟨Fb,3,none⟩=some (.bool over)):=Ae fun W' h=>by subst hSd;exact h
 have hS0:Hid (S w.drew):=Ae (by subst hSd;exact⟨hU,u0,hF⟩);have hbw:Hid (Below w.heap.size w w.drew):=Ae (Below.refl _ _).drew;clear hn h hid hU hF hg hv hR hSd u0 hbl;go_enter Tryz.func58,Tryz.ntmps58;go_upto_region 1 with fail;refine Al (S:=S) (by kernel_rfl) hS0.out (fun hS=>?_);obtain⟨X0,hX0⟩:=ez w.drew;rw[←hX0]at hS hbw⊢;clear hX0
 cases v<;>cases over
 ·refine Cf 0 ?_;refine Cf 1 ?_;refine Cf 2 ?_;refine Cf 3 ?_;refine Cf 4 ?_;refine Cf 5 ?_;refine Cf 6 ?_;refine Ak (by kernel_rfl) ?_ _;have hRR:R=2:=by rw[←HR.out];rfl
  subst hRR;go_wp2_with fail;go_ret;exact⟨rfl,hbw⟩
 ·refine Cf 0 ?_;refine Cf 1 ?_;refine Cf 2 ?_;refine Cf 3 ?_;refine Cf 4 ?_;refine Cf 5 ?_;refine Cf 6 ?_;refine Ak (by kernel_rfl) ?_ _;have hRR:R=1:=by rw[←HR.out];rfl
  subst hRR;go_wp2_with fail;go_ret;exact⟨rfl,hbw⟩
 ·refine Cf 0 ?_;refine Cf 1 ?_;refine Cf 2 ?_;refine Cf 3 ?_;refine Cf 4 ?_;refine Cf 5 ?_;refine Cf 6 ?_;refine Ak (by kernel_rfl) ?_ _;have hRR:R=1:=by rw[←HR.out];rfl
  subst hRR;go_wp2_with fail;go_ret;exact⟨rfl,hbw⟩
 ·refine Cf 0 ?_;refine Cf 1 ?_;refine Cf 2 ?_;refine Cf 3 ?_;refine Cf 4 ?_;refine Cf 5 ?_;refine Cf 6 ?_;refine Ak (by kernel_rfl) ?_ _;have hRR:R=2:=by rw[←HR.out];rfl
  subst hRR;go_wp2_with fail;go_ret;exact⟨rfl,hbw⟩
end Go.Proofs.YteoffhpfcgffcaaGreatDoor
namespace Go.Proofs.YteoffhpfcgffcaaGreatDoor
open Go.RowKit Go.Sort
theorem Bx.grown {w wr w':Ag} {l:List (Nat×Array Ah×TypeId)} {row:Option Nat} (h:Bx w l wr) (hg:wr.grownBy w' row) (hn:∀x∈l,row≠some x.1) (hlo:∀g,row=some g→w.heap.size≤g):Bx w l w':=
 ⟨h.below.grown hg h.below.size hlo,fun i g cs t hi=>(hg.block g (h.lt i hi) (Ne.symm (hn _ (List.mem_of_getElem? hi)))).trans (h.blk i g cs t hi),h.lo,h.inj⟩
theorem Ip {w:Ag} {O e sz n g:Nat} {v:Ah} {xs:List Ah} {cs:Array Ah} {t:TypeId} (h:w.ownsRow O e sz v n xs) (hg:w.heap[g]? =some (Obj.cells cs t (0,0))) (hne:t≠e):v.ownBlock≠some g:=Ne.symm (Ol hg hne h)
def csL (a b:Int) (pA:Option Addr) (pn pc N R T:Nat) (v:Ah):List (Nat×Array Ah×TypeId):=
 [(N,#[Aa Ab a,Aa Ab b,Ad pA pn pc],38),(R,#[Aa Ab 0,Aa Ab 0,Ad none 0 0],38),(T,#[Aa Ab a,Aa Ab b,v],38)]
structure CsI (w:Ag) (L:Ah→List (Nat×Array Ah×TypeId)) (wr:Ag) (m:Nat) (xs:List Ah) (A:Option Addr) (c:Nat):Prop where
 bx:Bx w (L (Ad A m c)) wr
 own:wr.ownsRow w.heap.size 89 3 (Ad A m c) m xs
theorem CsI.below {w wr w':Ag} {L:Ah→List (Nat×Array Ah×TypeId)} {m c:Nat} {xs:List Ah} {A:Option Addr} (h:CsI w L wr m xs A c) (hb:Below wr.heap.size wr w'):CsI w L w' m xs A c:=⟨h.bx.call hb,Ck h.own (Aj _) hb⟩
theorem yP {w wr:Ag} {a b:Int} {pA:Option Addr} {pn pc N R T m c:Nat} {xs:List Ah} {A:Option Addr} (h:CsI w (csL a b pA pn pc N R T) wr m xs A c):∀x∈csL a b pA pn pc N R T (Ad A m c),Value.ownBlock (Ad A m c)≠some x.1:=by
 intro x hx;have h0:=h.bx.blk 0 _ _ _ rfl;have h1:=h.bx.blk 1 _ _ _ rfl;have h2:=h.bx.blk 2 _ _ _ rfl;simp only[csL,Bh,List.not_mem_nil,or_false]at hx;rcases hx with rfl|rfl|rfl
 ·exact Ip h.own h0 (by decide)
 ·exact Ip h.own h1 (by decide)
 ·exact Ip h.own h2 (by decide)
theorem iP {w wr Y:Ag} {a b:Int} {pA:Option Addr} {pn pc N R T m c:Nat} {xs:List Ah} {A:Option Addr} (h:CsI w (csL a b pA pn pc N R T) wr m xs A c) (hb:Below wr.heap.size wr Y) (hm:m≤1000000) (i e k:Int):
  ∃A' c' w8,(Builtin.append_ #[36,36] 36 #[Ad A m c,Ad (some ⟨Y.heap.size,0,none⟩) 1 1]).run Tryz.prog (Y.alloc (.cells #[Aa Ab i,Aa Ac e,Aa Ac k] 89))= .ok (Ad A' (m+1) c') w8∧
   (w8.frozen? ⟨T,2,none⟩=false∧w8.cell? ⟨T,2,none⟩=some (Ad A m c))∧(∀X,wr.heap.size≤X→X<Y.heap.size→w8.heap[X]? =Y.heap[X]? ∧(w8.setCell ⟨T,2,none⟩ (Ad A' (m+1) c')).heap[X]? =Y.heap[X]?)∧
   CsI w (csL a b pA pn pc N R T) (w8.setCell ⟨T,2,none⟩ (Ad A' (m+1) c')) (m+1) (xs++[Aa Ab i,Aa Ac e,Aa Ac k]) A' c':=by
 have hY:=h.below hb;obtain⟨A',c',w8,hrun,ho,-,hg,hM,-,-,hfr⟩:=Pa (sl:=36) Tryz.underlying36 qK rfl (by decide) (by decide) Y w.heap.size m (Ad A m c) xs hY.own hY.bx.below.size (by omega) [Aa Ab i,Aa Ac e,Aa Ac k] rfl (by simp[Value.oneCell']);have hlo:∀g,Value.ownBlock (Ad A m c)=some g→w.heap.size≤g:=fun g hg=>(hY.own.lt g hg).1;have H8:=hY.bx.grown hg (yP hY) hlo;obtain⟨⟨-,-,t2⟩,-,-,f2⟩:=Ci (H8.blk 2 _ _ _ rfl);have hT8:=H8.blk 2 _ _ _ rfl
 have hX:∀X,wr.heap.size≤X→X<Y.heap.size→w8.heap[X]? =Y.heap[X]? :=fun X h1 h2=>hg.block X h2 fun e=>by
  have:=(h.own.lt X e.symm).2;omega
 have hTr:=h.bx.lt 2 rfl
 exact⟨A',c',w8,hrun,⟨f2,t2⟩,fun X h1 h2=>⟨hX X h1 h2,(Below.heap_setCell w8 ⟨T,2,none⟩ _ X (by show X≠T;omega)).trans (hX X h1 h2)⟩,H8.set 2 2 rfl _,Dj ho fun g hgv=>Below.heap_setCell w8 ⟨T,2,none⟩ _ g (by
  show g≠T;intro e;subst e;exact Ip ho hT8 (by decide) hgv)⟩
theorem iO {w wr:Ag} {a b:Int} {pA:Option Addr} {pn pc N R T c:Nat} {xs:List Ah} {A:Option Addr} (h:Bx w [(N,#[Aa Ab a,Aa Ab b,Ad pA pn pc],38),(R,#[Aa Ab 0,Aa Ab 0,Ad none 0 0],38),(T,#[Aa Ab 0,Aa Ab 0,Ad none 0 0],38)] wr)
  (ho:wr.ownsRow w.heap.size 89 3 (Ad A pn c) pn xs):CsI w (csL a b pA pn pc N R T) (((wr.setCell ⟨T,0,none⟩ (Aa Ab a)).setCell ⟨T,1,none⟩ (Aa Ab b)).setCell ⟨T,2,none⟩ (Ad A pn c)) pn xs A c:=by
 have hT:=h.blk 2 _ _ _ rfl
 have hne:∀g,Value.ownBlock (Ad A pn c)=some g→g≠T:=fun g hg e=>by
  subst e;exact Ip ho hT (by decide) hg
 refine⟨((h.set 2 0 rfl (Aa Ab a)).set 2 1 rfl (Aa Ab b)).set 2 2 rfl (Ad A pn c),Dj ho fun g hg=>?_⟩;rw[Below.heap_setCell _ ⟨T,2,none⟩ _ g (hne g hg),Below.heap_setCell _ ⟨T,1,none⟩ _ g (hne g hg),Below.heap_setCell _ ⟨T,0,none⟩ _ g (hne g hg)]
def oC (a b:Int) (l:List Cr) (w:Ag) (e:Ending) (w':Ag):Prop:=
 ∃A c,e= .returned (.agg #[Aa Ab a,Aa Ab b,Ad A l.length l.length])∧AOk A l.length l.length∧w'.ownsRow w.heap.size 89 3 (Ad A l.length c) l.length (crs l)∧Below w.heap.size w w'
theorem fE (l:List (Nat×Nat)) (kf:Nat→Int) (k:Nat) (h:k<l.length):Gp (l.take (k+1)) kf=Gp (l.take k) kf++[⟨l[k].1,l[k].2,kf l[k].1⟩]:=by
 unfold Gp;rw[Ax h,List.map_append];rfl
theorem iM (l1 l2:List Cr):crs (l1++l2)=crs l1++crs l2:=by simp[crs]
theorem Zj (a b:Int) (pA:Option Addr) (cr:List Cr) (pn pc:Nat) (AL:Option Addr) (l:List (Nat×Nat)) (nl cl U F:Nat) (kf:Nat→Int) (w:Ag) (hpn:pn=cr.length) (hpA:AOk pA pn pc) (hpr:Rd w pA 3 pn (crs cr)) (hpl:pn≤300000)
  (hnl:nl=l.length) (hl:Rd w AL 2 nl (Fp l)) (hll:nl≤3072) (hnd:((cr++Gp l kf).map crU).Nodup)
  (hcl:∀w',Below w.heap.size w w'→∀u∈l,Ai Tryz.prog 58 #[Aa Ab (u.1:Int),.pointer (some ⟨U,0,none⟩),.pointer (some ⟨F,0,none⟩)] w' (Cg (Aa Ac (kf u.1)) w')):
  Ai Tryz.prog 57 #[.agg #[Aa Ab a,Aa Ab b,Ad pA pn pc],Ad AL nl cl,.func (.func 58) #[] #[.pointer (some ⟨U,0,none⟩),.pointer (some ⟨F,0,none⟩)]] w (oC a b (If (cr++Gp l kf)) w):=by
 have HCLO:=Ae (fun(w':Ag) (hb:Below w.heap.size w w')=>iI pA pn pc (crs cr) w' hpA (hpr.below hb) (iN cr) (by omega));have HUR:=Ae (fun(w':Ag) (hb:Below w.heap.size w w')=>hl.below hb);have HCL:=Ae hcl;have HND:=Ae hnd;have HNL:=Ae hnl;have HPN:=Ae hpn;have H:=((Bx.start w).new #[Aa Ab a,Aa Ab b,Ad pA pn pc] 38 rfl).new #[Aa Ab 0,Aa Ab 0,Ad none 0 0] 38 (N:=w.heap.size+1) (by simp);clear hpn hpA hpr hnl hl hnd hcl;go_enter Tryz.func57,Tryz.ntmps57;go_upto_region 1 with fail;obtain⟨N,hN⟩:=ez w.heap.size;rw[←hN]at H⊢;have HNN:=Ae hN;clear hN;obtain⟨R,hR⟩:=ey (N+1);rw[hR]at H⊢;clear hR;obtain⟨W1,hW1⟩:=ez ((w.alloc (.cells #[Aa Ab a,Aa Ab b,Ad pA pn pc] 38)).alloc (.cells #[Aa Ab 0,Aa Ab 0,Ad none 0 0] 38));rw[←hW1]at H⊢;clear hW1;obtain⟨⟨a0,a1,a2⟩,-⟩:=Ci (H.blk 0 _ _ _ rfl);go_cut [7] (fun s7 wx=>∃T A c,s7= .pointer (some ⟨T,0,none⟩)∧Hid (CsI w (csL a b pA pn pc N R T) wx pn (crs cr) A c))
 case first=>
  obtain⟨S,hSd⟩:∃S:Ag→Prop,S=fun W'=>W'.cell? ⟨N,0,none⟩=some (Aa Ab a)∧W'.cell? ⟨N,1,none⟩=some (Aa Ab b)∧W'.cell? ⟨N,2,none⟩=some (Ad pA pn pc):=⟨_,rfl⟩;have HSO:Hid (∀W',S W'→W'.cell? ⟨N,0,none⟩=some (Aa Ab a)∧W'.cell? ⟨N,1,none⟩=some (Aa Ab b)∧W'.cell? ⟨N,2,none⟩=some (Ad pA pn pc)):=Ae fun W' h=>by subst hSd;exact h
  have HSA:Hid (∀W',Below W1.heap.size W1 W'→S W'):=Ae fun W' h=>by
   subst hSd;exact⟨Ce h a0,Ce h a1,Ce h a2⟩
  clear hSd a0 a1 a2;refine Al (S:=S) (by kernel_rfl) (HSA.out _ (Below.refl _ _).drew) (fun hS=>?_);have hb:Below W1.heap.size W1 W1.drew:=(Below.refl _ _).drew;have H:=H.drew;obtain⟨X0,hX0⟩:=ez W1.drew;rw[←hX0]at hb hS H⊢;clear hX0;refine Cf 0 ?_;refine Cf 1 ?_;refine Cf 2 ?_;refine Cf 3 ?_;refine Am (rs:=[4,6]) (by kernel_rfl) (by simp) (An rfl (fun K hK=>?_) (An rfl (fun K hK=>?_) Ao))
  ·go_simp;refine(HCLO.out _ H.below).mono ?_;rintro e X1 ⟨v,rfl,hown,hbm⟩;obtain⟨A',c',rfl,-,-,-⟩:=Fx hown;have hown:=Dr hown H.below.size;have H:=H.call hbm;have hb:=hb.trans (hbm.mono hb.size);refine hK.out _ _ (HSA.out _ hb) (fun hS=>?_);clear hK K hbm;refine Cf 5 ?_;obtain⟨T,hT⟩:=ey X1.heap.size;have H:=H.new #[Aa Ab 0,Aa Ab 0,Ad none 0 0] 38 hT;have hown:=hown.alloc (.cells #[Aa Ab 0,Aa Ab 0,Ad none 0 0] 38);have hTl:W1.heap.size≤T:=hT▸hb.size;have hb:=hb.alloc hb.size (.cells #[Aa Ab 0,Aa Ab 0,Ad none 0 0] 38);refine rdy 6 (fun K hK=>?_);go_simp;refine hK.out _ _ (HSA.out _ hb) (fun hS=>?_);clear hK K hT;obtain⟨XA,hXA⟩:=ez (X1.alloc (.cells #[Aa Ab 0,Aa Ab 0,Ad none 0 0] 38));rw[←hXA]at H hb hS hown⊢;clear hXA;have HC:=Ae (iO (a:=a) (b:=b) H hown);obtain⟨⟨y0,y1,y2⟩,z0,z1,z2⟩:=Ci (H.blk 2 _ _ _ rfl);have hb:=((hb.setCell (p:=⟨T,0,none⟩) hTl (Aa Ab a)).setCell (p:=⟨T,1,none⟩) hTl (Aa Ab b)).setCell (p:=⟨T,2,none⟩) hTl (Ad A' pn c');clear H hown;refine rdy 7 (fun K hK=>?_);go_simp;refine hK.out _ _ (HSA.out _ hb) (fun hS=>?_);clear hK K;refine Ak (by kernel_rfl) ?_ _;go_wp2_with fail;go_meet;exact⟨T,A',c',rfl,HC⟩
  ·obtain⟨T,hT⟩:=ey X0.heap.size;have H:=H.new #[Aa Ab 0,Aa Ab 0,Ad none 0 0] 38 hT;have hTl:W1.heap.size≤T:=hT▸hb.size;have hb:=hb.alloc hb.size (.cells #[Aa Ab 0,Aa Ab 0,Ad none 0 0] 38);go_simp;refine hK.out _ _ (HSA.out _ hb) (fun hS=>?_);clear hK K hT;obtain⟨X1,hX1⟩:=ez (X0.alloc (.cells #[Aa Ab 0,Aa Ab 0,Ad none 0 0] 38));rw[←hX1]at H hb hS⊢;clear hX1;refine rdy 4 (fun K hK=>?_);go_simp;refine(HCLO.out _ H.below).mono ?_;rintro e X2 ⟨v,rfl,hown,hbm⟩;obtain⟨A',c',rfl,-,-,-⟩:=Fx hown;have hown:=Dr hown H.below.size;have H:=H.call hbm;have hb:=hb.trans (hbm.mono hb.size);refine hK.out _ _ (HSA.out _ hb) (fun hS=>?_);clear hK K hbm;refine Cf 5 ?_;obtain⟨XA,hXA⟩:=ez X2;rw[←hXA]at H hb hS hown⊢;clear hXA;have HC:=Ae (iO (a:=a) (b:=b) H hown);obtain⟨⟨y0,y1,y2⟩,z0,z1,z2⟩:=Ci (H.blk 2 _ _ _ rfl);have hb:=((hb.setCell (p:=⟨T,0,none⟩) hTl (Aa Ab a)).setCell (p:=⟨T,1,none⟩) hTl (Aa Ab b)).setCell (p:=⟨T,2,none⟩) hTl (Ad A' pn c');clear H hown;refine rdy 7 (fun K hK=>?_);go_simp;refine hK.out _ _ (HSA.out _ hb) (fun hS=>?_);clear hK K;refine Ak (by kernel_rfl) ?_ _;go_wp2_with fail;go_meet;exact⟨T,A',c',rfl,HC⟩
 case rest=>
  obtain⟨T,A0,c0,rfl,HC⟩:=hcut
  have HI0:Hid (∃A c,CsI w (csL a b pA pn pc N R T) wc (pn+0) (crs (cr++Gp (l.take 0) kf)) A c):=Ae ⟨A0,c0,by
   have e:cr++Gp (l.take 0) kf=cr:=by simp[Gp]
   rw[e];exact HC.out⟩
  clear HC HCLO a0 a1 a2 H;go_wp2_with fail
  go_loopw [18] (fun s18 wr=>∃k:Nat,k≤nl∧s18= Aa Ab k∧Hid (∃A c,CsI w (csL a b pA pn pc N R T) wr (pn+k) (crs (cr++Gp (l.take k) kf)) A c)) (fun s18 _=>nl-(intOf s18).toNat)
  case atStart=>exact⟨0,by omega,rfl,HI0⟩
  case round=>
   obtain⟨k,hk,rfl,HZ⟩:=hrel;clear HI0;by_cases hlt:k<nl
   ·have q0:(k:Int)<(nl:Int):=by omega
    have hkl:k<l.length:=by have:=HNL.out;omega
    obtain⟨A9,c9,hci⟩:=HZ.out;obtain⟨bu,ou,hAL,-,d0,d1⟩:=Ym (HUR.out _ hci.bx.below) k hkl;have hsn:=fE l kf k hkl;have hck:=fun(w':Ag) (hb:Below w.heap.size w w')=>HCL.out w' hb l[k] (Au hkl);obtain⟨⟨i,e⟩,hu⟩:=ey (l[k]);rw[hu]at d0 d1 hsn hck;dsimp only at d0 d1 hsn hck;obtain⟨k9,hk9⟩:=ey (kf i);rw[hk9]at hsn hck;obtain⟨X,hX⟩:=ey wr.heap.size;have H:=(Bx.start wr).new #[Aa Ab (i:Int),Aa Ac (e:Int)] 91 hX;have HCK:=Ae (fun(w':Ag) (hb:Below wr.heap.size wr w')=>hck w' (hci.bx.below.trans (hb.mono hci.bx.below.size)));have HSN:=Ae hsn;have HCI:=Ae hci;subst hAL;clear hu hk9 hsn hck hci HZ hkl;go_upto_region 5 with fail
    try rw[hX]
    obtain⟨W5,hW5⟩:=ez (wr.alloc (.cells #[Aa Ab (i:Int),Aa Ac (e:Int)] 91));rw[←hW5]at H⊢;clear hW5;clear d0 d1;obtain⟨⟨x0,x1⟩,-⟩:=Cu (H.blk 0 _ _ _ rfl);obtain⟨S,hSd⟩:∃S:Ag→Prop,S=fun W'=>W'.cell? ⟨X,0,none⟩=some (Aa Ab (i:Int))∧W'.cell? ⟨X,1,none⟩=some (Aa Ac (e:Int)):=⟨_,rfl⟩;have HSO:Hid (∀W',S W'→W'.cell? ⟨X,0,none⟩=some (Aa Ab (i:Int))∧W'.cell? ⟨X,1,none⟩=some (Aa Ac (e:Int))):=Ae fun W' h=>by subst hSd;exact h
    have HSA:Hid (∀W',W'.heap[X]? =W5.drew.heap[X]? →S W'):=Ae fun W' h=>by
     have hc:∀j v,W5.cell? ⟨X,j,none⟩=some v→W'.cell? ⟨X,j,none⟩=some v:=fun j v hv=>by
      unfold World.cell? at hv⊢;rw[h];exact hv
     subst hSd;exact⟨hc _ _ x0,hc _ _ x1⟩
    have hb7:Below wr.heap.size wr W5.drew:=H.below.drew
    have hcl:W5.drew.cell? ⟨T,2,none⟩=some (Ad A9 (pn+k) c9):=by
     obtain⟨⟨-,-,t2⟩,-⟩:=Ci ((HCI.out.below H.below).bx.blk 2 _ _ _ rfl);exact t2
    have hXd:X<W5.drew.heap.size:=H.lt 0 rfl;clear x0 x1 hSd;refine Al (S:=S) (by kernel_rfl) (HSA.out _ rfl) (fun hS=>?_);clear H;obtain⟨Y,hY⟩:=ez W5.drew;rw[←hY]at hS hb7 hcl hXd HSA⊢;clear hY;have HSA2:Hid (∀(Y2 W':Ag),Below Y.heap.size Y Y2→W'.heap[X]? =Y2.heap[X]? →S W'):=Ae fun Y2 W' hb h=>HSA.out _ (h.trans (hb.block X hXd));have HB7:=Ae hb7;have HXX:Hid (wr.heap.size≤X):=Ae (by omega);have HXD:=Ae hXd;clear hb7 HSA hXd hX;refine Cf 0 ?_;refine Cf 2 ?_;refine Cf 3 ?_;refine Cf 4 ?_;refine Cf 5 ?_;refine Cf 6 ?_;refine Cf 7 ?_;refine Cf 8 ?_;refine Am (rs:=[1,9]) (by kernel_rfl) (by simp) (An rfl (fun K hK=>?_) (An rfl (fun K hK=>?_) Ao))
    ·go_simp;refine hK.out _ _ hS (fun hS=>?_);clear hK K hcl;refine rdy 9 (fun K hK=>?_);go_simp;refine(HCK.out _ HB7.out).mono ?_;rintro ee Y2 ⟨rfl,hb9⟩;refine hK.out _ _ (HSA2.out Y2 _ hb9 rfl) (fun hS=>?_);clear hK K;have hb79:=HB7.out.trans (hb9.mono HB7.out.size);obtain⟨A'',c'',w8,hrun,⟨f8,k8⟩,hX8,hC9⟩:=iP HCI.out hb79 (by omega) (i:Int) (e:Int) k9;have hXY2:X<Y2.heap.size:=by have:=hb9.size;have:=HXD.out;omega
     obtain⟨h81,h82⟩:=hX8 X HXX.out hXY2;have HS8:=Ae (HSA2.out Y2 _ hb9 h81);have HS9:=Ae (HSA2.out Y2 _ hb9 h82);have HSB:=Ae (HSA2.out Y2 _ hb9 (Below.heap_alloc Y2 (.cells #[Aa Ab (i:Int),Aa Ac (e:Int),Aa Ac k9] 89) X hXY2));have HRUN:=Ae hrun;have HFIN:Hid (∃A c,CsI w (csL a b pA pn pc N R T) (w8.setCell ⟨T,2,none⟩ (Ad A'' (pn+k+1) c'')) (pn+(k+1)) (crs (cr++Gp (l.take (k+1)) kf)) A c):=Ae ⟨_,_,by rw[HSN.out,←Bg,iM];exact hC9⟩;clear hb79 hrun hX8 hC9 h81 h82 hXY2;refine Cf 10 ?_;refine rdy 11 (fun K hK=>?_);go_simp;refine hK.out _ _ HSB.out (fun hS=>?_);clear hK K;refine rdy 12 (fun K hK=>?_);refine Di (by simp[Region.wanted]) (.tmp 23) (.tmp 33) 36 rfl _ _ (by simp[Act.eval]) (by simp[Act.eval]) _ _ HRUN.out ?_;refine hK.out _ _ HS8.out (fun hS=>?_);clear hK K;refine Cf 13 ?_;refine rdy 14 (fun K hK=>?_);go_simp;refine hK.out _ _ HS9.out (fun hS=>?_);clear hK K hS;refine Ak (by kernel_rfl) ?_ _;clear HRUN HS8 HS9 HSB HSO HSA2 f8 k8 HB7 HCK;go_wp2_with fail;exact⟨⟨k+1,by omega,by go_num,HFIN⟩,by simp[intOf];omega⟩
    ·go_simp;refine(HCK.out _ HB7.out).mono ?_;rintro ee Y2 ⟨rfl,hb9⟩;refine hK.out _ _ (HSA2.out Y2 _ hb9 rfl) (fun hS=>?_);clear hK K;have hb79:=HB7.out.trans (hb9.mono HB7.out.size);obtain⟨A'',c'',w8,hrun,⟨f8,k8⟩,hX8,hC9⟩:=iP HCI.out hb79 (by omega) (i:Int) (e:Int) k9;have hXY2:X<Y2.heap.size:=by have:=hb9.size;have:=HXD.out;omega
     obtain⟨h81,h82⟩:=hX8 X HXX.out hXY2;have HS8:=Ae (HSA2.out Y2 _ hb9 h81);have HS9:=Ae (HSA2.out Y2 _ hb9 h82);have HSB:=Ae (HSA2.out Y2 _ hb9 (Below.heap_alloc Y2 (.cells #[Aa Ab (i:Int),Aa Ac (e:Int),Aa Ac k9] 89) X hXY2));have HRUN:=Ae hrun;have HFIN:Hid (∃A c,CsI w (csL a b pA pn pc N R T) (w8.setCell ⟨T,2,none⟩ (Ad A'' (pn+k+1) c'')) (pn+(k+1)) (crs (cr++Gp (l.take (k+1)) kf)) A c):=Ae ⟨_,_,by rw[HSN.out,←Bg,iM];exact hC9⟩;clear hb79 hrun hX8 hC9 h81 h82 hXY2;refine Cf 10 ?_;have hcl:=Ce hb9 hcl;refine Am (rs:=[1,11]) (by kernel_rfl) (by simp) (An rfl (fun K hK=>?_) (An rfl (fun K hK=>?_) Ao))
     ·go_simp;refine hK.out _ _ hS (fun hS=>?_);clear hK K hcl;refine rdy 11 (fun K hK=>?_);go_simp;refine hK.out _ _ HSB.out (fun hS=>?_);clear hK K;refine rdy 12 (fun K hK=>?_);refine Di (by simp[Region.wanted]) (.tmp 23) (.tmp 33) 36 rfl _ _ (by simp[Act.eval]) (by simp[Act.eval]) _ _ HRUN.out ?_;refine hK.out _ _ HS8.out (fun hS=>?_);clear hK K;refine Cf 13 ?_;refine rdy 14 (fun K hK=>?_);go_simp;refine hK.out _ _ HS9.out (fun hS=>?_);clear hK K hS;refine Ak (by kernel_rfl) ?_ _;clear HRUN HS8 HS9 HSB HSO HSA2 f8 k8 HB7 HCK;go_wp2_with fail;exact⟨⟨k+1,by omega,by go_num,HFIN⟩,by simp[intOf];omega⟩
     ·have hcl:=Ce ((Below.refl Y2.heap.size Y2).alloc (Aj _) (.cells #[Aa Ab (i:Int),Aa Ac (e:Int),Aa Ac k9] 89)) hcl;go_simp;refine hK.out _ _ HSB.out (fun hS=>?_);clear hK K;refine rdy 1 (fun K hK=>?_);go_simp;refine hK.out _ _ hS (fun hS=>?_);clear hK K hcl;refine rdy 12 (fun K hK=>?_);refine Di (by simp[Region.wanted]) (.tmp 23) (.tmp 33) 36 rfl _ _ (by simp[Act.eval]) (by simp[Act.eval]) _ _ HRUN.out ?_;refine hK.out _ _ HS8.out (fun hS=>?_);clear hK K;refine Cf 13 ?_;refine rdy 14 (fun K hK=>?_);go_simp;refine hK.out _ _ HS9.out (fun hS=>?_);clear hK K hS;refine Ak (by kernel_rfl) ?_ _;clear HRUN HS8 HS9 HSB HSO HSA2 f8 k8 HB7 HCK;go_wp2_with fail;exact⟨⟨k+1,by omega,by go_num,HFIN⟩,by simp[intOf];omega⟩
   ·obtain⟨W1,rfl⟩:=ez wr;obtain rfl:k=nl:=by omega
    have q0:¬(k:Int)<(k:Int):=by omega
    obtain⟨A9,c9,hci⟩:=HZ.out;have ht:l.take k=l:=Bc (by have:=HNL.out;omega);rw[ht]at hci;obtain⟨m,hm⟩:=ey (pn+k);rw[hm]at hci;obtain⟨L,hL⟩:=ey (cr++Gp l kf);rw[hL]at hci HND;have HLL:=Ae hL;have hown:=hci.own;rw[Ag5]at hown;have HSRT:=Ae (gD (L.map crT) W1 hown (by omega));have hmb:m≤1000000:=by omega
    have HFS:Hid (∀w4,(∃l':List CrE,l'.Perm (L.map crT)∧l'.Pairwise (fun p q=>ltOf Xo q p=false)∧w4.ownsRow w.heap.size 89 3 (Ad A9 m c9) m (l'.flatMap crI)∧W1.grownBy w4 (Value.ownBlock (Ad A9 m c9)))→CsI w (csL a b pA pn pc N R T) w4 m (crs (If L)) A9 c9):=Ae (by
     rintro w4 ⟨l',hp,hs,ho,hg⟩;have e:=tL hp hs HND.out;rw[←Ag4,e]at ho;exact⟨hci.bx.grown hg (yP hci) (fun g hgv=>(hci.own.lt g hgv).1),ho⟩)
    have hlen:(If L).length=m:=by
     have h1:=(Pt L).length_eq;have h2:=hci.own.1;rw[vV]at h2;omega
    have HLEN:=Ae hlen;have hci':=Ae hci;obtain⟨⟨-,-,t2⟩,-⟩:=Ci (hci.bx.blk 2 _ _ _ rfl);clear hci hown hlen ht hL hm HZ HUR HCL;go_wp2_with fail;refine HSRT.out.mono ?_;rintro ee w4 ⟨rfl,hsr⟩;have HC4:=Ae (HFS.out w4 hsr);clear t2 hsr HFS HSRT;obtain⟨⟨-,-,t2⟩,-⟩:=Ci (HC4.out.bx.blk 2 _ _ _ rfl);obtain⟨A',c',hv,hA',-,-⟩:=Fx HC4.out.own;obtain⟨rfl,rfl⟩:A9=A'∧c9=c':=by simpa using hv
    have HCN:=Ae (iI A9 m c9 (crs (If L)) w4 hA' (Rd.of_own HC4.out.own) (iN _) hmb);clear hv hA';go_wp2_with fail;refine HCN.out.mono ?_;rintro ee w5 ⟨v5,rfl,hown5,hb5⟩;obtain⟨A5,c5,rfl,hA5,hle5,hcm5⟩:=Fx hown5;have HO5:=Ae hown5;have HA5:=Ae hA5;clear hown5 hA5 t2;go_wp2_with fail;refine(Aa0 A5 m c5 w5 hle5 hcm5).mono ?_;rintro ee w6 ⟨rfl,hb6⟩;have H6:=(HC4.out.bx.call hb5).call hb6;have ho6:=Ck HO5.out (Aj _) hb6
    have hneT:∀g,Value.ownBlock (Ad A5 m c5)=some g→g≠T:=fun g hg e=>by
     subst e;exact Ip ho6 (H6.blk 2 _ _ _ rfl) (by decide) hg
    have hneR:∀g,Value.ownBlock (Ad A5 m c5)=some g→g≠R:=fun g hg e=>by
     subst e;exact Ip ho6 (H6.blk 1 _ _ _ rfl) (by decide) hg
    obtain⟨⟨t0,t1,t2⟩,f0,f1,f2⟩:=Ci (H6.blk 2 _ _ _ rfl);obtain⟨⟨r0,r1,r2⟩,g0,g1,g2⟩:=Ci (H6.blk 1 _ _ _ rfl);have hTR:=H6.ne 1 2 (by decide) rfl rfl;have hRT:=hTR.symm;have H7:=(((H6.set 2 2 rfl (Ad A5 m m)).set 1 0 rfl (Aa Ab a)).set 1 1 rfl (Aa Ab b)).set 1 2 rfl (Ad A5 m m)
    have ho7:((((w6.setCell ⟨T,2,none⟩ (Ad A5 m m)).setCell ⟨R,0,none⟩ (Aa Ab a)).setCell ⟨R,1,none⟩ (Aa Ab b)).setCell ⟨R,2,none⟩ (Ad A5 m m)).ownsRow w4.heap.size 89 3 (Ad A5 m c5) m (crs (If L)):=Dj ho6 fun g hg=>by
     rw[Below.heap_setCell _ ⟨R,2,none⟩ _ g (hneR g hg),Below.heap_setCell _ ⟨R,1,none⟩ _ g (hneR g hg),Below.heap_setCell _ ⟨R,0,none⟩ _ g (hneR g hg),Below.heap_setCell _ ⟨T,2,none⟩ _ g (hneT g hg)]
    have HF:Hid (oC a b (If (cr++Gp l kf)) w (.returned (.agg #[Aa Ab a,Aa Ab b,Ad A5 m m])) ((((w6.setCell ⟨T,2,none⟩ (Ad A5 m m)).setCell ⟨R,0,none⟩ (Aa Ab a)).setCell ⟨R,1,none⟩ (Aa Ab b)).setCell ⟨R,2,none⟩ (Ad A5 m m))):=Ae (by
     rw[HLL.out];exact⟨A5,c5,by rw[HLEN.out],by rw[HLEN.out];exact HA5.out.clip,by rw[HLEN.out];exact Dr ho7 HC4.out.bx.below.size,H7.below⟩)
    have H7':=Ae H7;clear ho6 ho7 H6 H7 hneT hneR hb5 hb6;go_wp2_with fail;exact Af (Dg rfl rfl (H7'.out.range 1 rfl) Tryz.underlying38 rfl (by kernel_rfl)) rfl HF.out
end Go.Proofs.YteoffhpfcgffcaaGreatDoor
