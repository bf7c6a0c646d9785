/- states.Same at two states of the same content: true. · Lemmas for the law MachinesRun: the steps of a machine up to the first one that fails; wider limits; what Run and Do return, spelt out. · MachinesRun: the law returns true. Printed by mk_ltm.py. -/
import Derived.Test.YtadnbldkegkjaaaGreatDoorQMru
import Derived.Test.YtadnbldkegkjaaaGreatDoorQMlb
open Go renaming Calls→Ai,Value→Ah,World→Ag,wpAnyH_done→Ak,wpAnyH_ready→Am,wp_region_held_drew→Al
open Go.AllReadyH renaming cons→An,nil→Ao
open Go.IntKind renaming i64→Ab,u8→Ac
open Go.IntWalk renaming wrap64_in→Bw
open Go.Lib renaming hid→Ae
open Go.Value renaming int→Aa,slice→Ad
open List renaming getElem?_eq_some_iff→As,getElem_cons_succ→Bz,getElem_cons_zero→By,getElem_mem→Au,getElem_toArray→Ca,setIfInBounds_toArray→Cd,set_cons_succ→Cc,set_cons_zero→Cb
open Nat renaming le_refl→Aj,lt_of_lt_of_le→Bm
set_option maxHeartbeats 64000000
set_option maxRecDepth 100000
namespace Go.Proofs.YtadnbldkegkjaaaGreatDoor
open Go.RowKit
theorem eqIds_any (l:List Nat) (A B:Option Addr) (n c d:Nat) (w:Ag) (hn:n=l.length) (hl:n≤1000000) (h1:Rd w A 1 n (Cz l)) (h2:Rd w B 1 n (Cz l)):
  Ai Tryz.prog 110 #[Ad A n c,Ad B n d] w (Cg (.bool true) w):=by
 have HA:=Ae h1;have HB:=Ae h2;have HN:=Ae hn;clear h1 h2 hn;go_enter Tryz.func110,Tryz.ntmps110;go_wp2_with fail
 go_loopw [5,13] (fun _ i wr=>∃k:Nat,k≤n∧i= Aa Ab k∧Below w.heap.size w wr) (fun _ i _=>n-(intOf i).toNat)
 case atStart=>exact⟨0,by omega,rfl,Below.refl _ _⟩
 case round=>
  obtain⟨k,hk,rfl,hb⟩:=hrel;by_cases hlt:k<n
  ·have hkl:k<l.length:=by have:=HN.out;omega
   obtain⟨b1,o1,rfl,hb1,c1⟩:=Km (HA.out.below hb) k hkl;obtain⟨b2,o2,rfl,hb2,c2⟩:=Km (HB.out.below hb) k hkl;have q1:(k:Int)<(n:Int):=by omega
   obtain⟨r,hr⟩:=ey (l[k]);rw[hr]at c1 c2;clear hr;go_upto_region 6 with fail
   go_quiet (fail)
   go_wp2_with fail;exact⟨⟨k+1,by omega,by go_num,Cp hb _⟩,by simp[intOf];omega⟩
  ·have q1:¬(k:Int)<(n:Int):=by omega
   go_wp2_with fail;go_ret;exact⟨rfl,hb⟩
theorem eqCrs_any (l:List Cr) (A B:Option Addr) (n c d:Nat) (w:Ag) (hn:n=l.length) (hl:n≤1000000) (h1:Rd w A 3 n (crs l)) (h2:Rd w B 3 n (crs l)):
  Ai Tryz.prog 107 #[Ad A n c,Ad B n d] w (Cg (.bool true) w):=by
 subst hn;have HA:=Ae h1;have HB:=Ae h2;obtain⟨n,hn⟩:=ey l.length;have HN:=Ae hn;rw[hn]at hl⊢;clear h1 h2 hn;go_enter Tryz.func107,Tryz.ntmps107;go_wp2_with fail
 go_loopw [5,13] (fun _ i wr=>∃k:Nat,k≤n∧i= Aa Ab k∧Below w.heap.size w wr) (fun _ i _=>n-(intOf i).toNat)
 case atStart=>exact⟨0,by omega,rfl,Below.refl _ _⟩
 case round=>
  obtain⟨k,hk,rfl,hb⟩:=hrel;by_cases hlt:k<n
  ·have hkl:k<l.length:=by have:=HN.out;omega
   obtain⟨b1,o1,rfl,hb1,c1,c2,c3⟩:=Qv (HA.out.below hb) k hkl;obtain⟨b2,o2,rfl,hb2,d1,d2,d3⟩:=Qv (HB.out.below hb) k hkl;have q1:(k:Int)<(n:Int):=by omega
   obtain⟨⟨r,s,t⟩,hr⟩:=ey (l[k]);rw[hr]at c1 c2 c3 d1 d2 d3;dsimp only at c1 c2 c3 d1 d2 d3;clear hr;go_upto_region 6 with fail
   go_quiet (fail)
   go_wp2_with fail;exact⟨⟨k+1,by omega,by go_num,Cp hb _⟩,by simp[intOf];omega⟩
  ·have q1:¬(k:Int)<(n:Int):=by omega
   go_wp2_with fail;go_ret;exact⟨rfl,hb⟩
theorem samePat_any (a b:Int) (l:List Cr) (A B:Option Addr) (n c d:Nat) (w:Ag) (hn:n=l.length) (hl:n≤1000000) (h1:Rd w A 3 n (crs l)) (h2:Rd w B 3 n (crs l)):
  Ai Tryz.prog 46 #[.agg #[Aa Ab a,Aa Ab b,Ad A n c],.agg #[Aa Ab a,Aa Ab b,Ad B n d]] w (Cg (.bool true) w):=by
 have HC:=Ae (fun(w':Ag) (hb:Below w.heap.size w w')=>eqCrs_any l A B n c d w' hn hl (h1.below hb) (h2.below hb));clear hn hl h1 h2;have H:=((Bx.start w).new #[Aa Ab a,Aa Ab b,Ad A n c] 32 rfl).new #[Aa Ab a,Aa Ab b,Ad B n d] 32 (N:=w.heap.size+1) (by simp);go_enter Tryz.func46,Tryz.ntmps46;go_upto_region 1 with fail;obtain⟨N,hN⟩:=ez w.heap.size;rw[←hN]at H⊢;have HNN:=Ae hN;clear hN;obtain⟨P,hP⟩:=ey (N+1);rw[hP]at H⊢;clear hP;obtain⟨W1,hW1⟩:=ez ((w.alloc (.cells #[Aa Ab a,Aa Ab b,Ad A n c] 32)).alloc (.cells #[Aa Ab a,Aa Ab b,Ad B n d] 32));rw[←hW1]at H⊢;clear hW1;obtain⟨⟨a0,a1,a2⟩,-⟩:=Ci (H.blk 0 _ _ _ rfl);obtain⟨⟨b0,b1,b2⟩,-⟩:=Ci (H.blk 1 _ _ _ rfl);go_wp2_with fail;refine(HC.out _ H.below).mono ?_;rintro e w2 ⟨rfl,hb⟩;have H2:=H.call hb;clear a0 a1 a2 b0 b1 b2 H hb;go_wp2_with fail;go_ret;exact⟨rfl,H2.below⟩
theorem sameStk_any (x:Stk) (A B:Option Addr) (c d:Nat) (w:Ag) (hl:x.ls.length≤1000000) (h1:Rd w A 1 x.ls.length (Cz x.ls)) (h2:Rd w B 1 x.ls.length (Cz x.ls)):
  Ai Tryz.prog 109 #[.agg #[Aa Ab x.c.x,Aa Ab x.c.y,Aa Ac x.c.q,Ad A x.ls.length c],.agg #[Aa Ab x.c.x,Aa Ab x.c.y,Aa Ac x.c.q,Ad B x.ls.length d]] w (Cg (.bool true) w):=by
 have HC:=Ae (fun(w':Ag) (hb:Below w.heap.size w w')=>eqIds_any x.ls A B x.ls.length c d w' rfl hl (h1.below hb) (h2.below hb));clear hl h1 h2;obtain⟨⟨y,z,q⟩,ls⟩:=x;dsimp only at HC⊢;obtain⟨n,hn⟩:=ey ls.length;rw[hn]at HC⊢;clear hn;have H:=((Bx.start w).new #[Aa Ab y,Aa Ab z,Aa Ac q,Ad A n c] 96 rfl).new #[Aa Ab y,Aa Ab z,Aa Ac q,Ad B n d] 96 (N:=w.heap.size+1) (by simp);go_enter Tryz.func109,Tryz.ntmps109;go_upto_region 1 with fail;obtain⟨N,hN⟩:=ez w.heap.size;rw[←hN]at H⊢;have HNN:=Ae hN;clear hN;obtain⟨P,hP⟩:=ey (N+1);rw[hP]at H⊢;clear hP;obtain⟨W1,hW1⟩:=ez ((w.alloc (.cells #[Aa Ab y,Aa Ab z,Aa Ac q,Ad A n c] 96)).alloc (.cells #[Aa Ab y,Aa Ab z,Aa Ac q,Ad B n d] 96));rw[←hW1]at H⊢;clear hW1;obtain⟨⟨a0,a1,a2,a3⟩,-⟩:=Co (H.blk 0 _ _ _ rfl);obtain⟨⟨b0,b1,b2,b3⟩,-⟩:=Co (H.blk 1 _ _ _ rfl);go_wp2_with fail;refine(HC.out _ H.below).mono ?_;rintro e w2 ⟨rfl,hb⟩;have H2:=H.call hb;clear a0 a1 a2 a3 b0 b1 b2 b3 H hb;go_wp2_with fail;go_ret;exact⟨rfl,H2.below⟩
theorem eqfStk_any (l:List Stk) (A B:Option Addr) (n c d:Nat) (w:Ag) (hn:n=l.length) (hl:n≤1000000) (hls:∀x∈l,x.ls.length≤1000000) (h1:Cs w A l) (h2:Cs w B l):
  Ai Tryz.prog 108 #[Ad A n c,Ad B n d,.func (.func 109) #[] #[]] w (Cg (.bool true) w):=by
 have HA:=Ae h1;have HB:=Ae h2;have HN:=Ae hn;have HLS:=Ae hls;clear h1 h2 hn hls;go_enter Tryz.func108,Tryz.ntmps108;go_wp2_with fail
 go_loopw [7,8,9,17] (fun _ _ _ i wr=>∃k:Nat,k≤n∧i= Aa Ab k∧Below w.heap.size w wr) (fun _ _ _ i _=>n-(intOf i).toNat)
 case atStart=>exact⟨0,by omega,rfl,Below.refl _ _⟩
 case round=>
  obtain⟨k,hk,rfl,hb⟩:=hrel;by_cases hlt:k<n
  ·have hkl:k<l.length:=by have:=HN.out;omega
   obtain⟨b1,o1,C1,d1,rfl,hb1,⟨e0,e1,e2,e3⟩,-,-,-,r1⟩:=(HA.out.below hb).get k hkl;obtain⟨b2,o2,C2,d2,rfl,hb2,⟨f0,f1,f2,f3⟩,-,-,-,r2⟩:=(HB.out.below hb).get k hkl;have q1:(k:Int)<(n:Int):=by omega
   have hx3:=HLS.out _ (Au hkl);obtain⟨r,hr⟩:=ey (l[k]);rw[hr]at e0 e1 e2 e3 f0 f1 f2 f3 hx3 r1 r2;have HC:=Ae (fun(w':Ag) (hb:Below wr.heap.size wr w')=>sameStk_any r C1 C2 d1 d2 w' hx3 (r1.below hb) (r2.below hb));clear hr hx3 r1 r2;obtain⟨⟨y,z,q⟩,ls⟩:=r;dsimp only at HC e0 e1 e2 e3 f0 f1 f2 f3;obtain⟨m,hm⟩:=ey ls.length;rw[hm]at HC e3 f3;clear hm;have H:=((Bx.start wr).new #[Aa Ab y,Aa Ab z,Aa Ac q,Ad C1 m d1] 96 rfl).new #[Aa Ab y,Aa Ab z,Aa Ac q,Ad C2 m d2] 96 (N:=wr.heap.size+1) (by simp);go_upto_region 7 with fail;obtain⟨N,hN⟩:=ez wr.heap.size;rw[←hN]at H⊢;clear hN;obtain⟨P,hP⟩:=ey (N+1);rw[hP]at H⊢;clear hP;obtain⟨W1,hW1⟩:=ez ((wr.alloc (.cells #[Aa Ab y,Aa Ab z,Aa Ac q,Ad C1 m d1] 96)).alloc (.cells #[Aa Ab y,Aa Ab z,Aa Ac q,Ad C2 m d2] 96));rw[←hW1]at H⊢;clear hW1;obtain⟨⟨a0,a1,a2,a3⟩,-⟩:=Co (H.blk 0 _ _ _ rfl);obtain⟨⟨b0,b1,b2,b3⟩,-⟩:=Co (H.blk 1 _ _ _ rfl);go_wp2_with fail;refine(HC.out _ H.below).mono ?_;rintro e w2 ⟨rfl,hb3⟩;have H2:=H.call hb3;have hb4:=hb.trans (H2.below.mono hb.size);clear a0 a1 a2 a3 b0 b1 b2 b3 e0 e1 e2 e3 f0 f1 f2 f3 H H2 hb3 HC;go_wp2_with fail;exact⟨⟨k+1,by omega,by go_num,hb4⟩,by simp[intOf];omega⟩
  ·have q1:¬(k:Int)<(n:Int):=by omega
   go_wp2_with fail;go_ret;exact⟨rfl,hb⟩
theorem sameStks_any (l:List Stk) (A B:Option Addr) (n c d:Nat) (w:Ag) (hn:n=l.length) (hl:n≤1000000) (hls:∀x∈l,x.ls.length≤1000000) (h1:Cs w A l) (h2:Cs w B l):
  Ai Tryz.prog 47 #[Ad A n c,Ad B n d] w (Cg (.bool true) w):=by
 have HC:=Ae (fun(w':Ag) (hb:Below w.heap.size w w')=>eqfStk_any l A B n c d w' hn hl hls (h1.below hb) (h2.below hb));clear hn hl hls h1 h2;go_enter Tryz.func47,Tryz.ntmps47;go_wp2_with fail;refine(HC.out _ (Below.refl _ _)).mono ?_;rintro e w2 ⟨rfl,hb⟩;go_wp2_with fail;go_ret;exact⟨rfl,hb⟩
theorem same_any (s:St) (hs:Gs s) (pA pB:Option Addr) (pc qc:Nat) (A B:Option Addr) (cc dc:Nat) (w:Ag) (h1:Rd w pA 3 s.cr.length (crs s.cr)) (h2:Rd w pB 3 s.cr.length (crs s.cr)) (h3:Cs w A s.l) (h4:Cs w B s.l):
  Ai Tryz.prog 21 #[.agg #[Aa Ab s.a,Aa Ab s.b,Ad pA s.cr.length pc,Aa Ac s.root.t,Aa Ab s.root.x,Aa Ab s.root.y,Ad A s.l.length cc],.agg #[Aa Ab s.a,Aa Ab s.b,Ad pB s.cr.length qc,Aa Ac s.root.t,Aa Ab s.root.x,Aa Ab s.root.y,Ad B s.l.length dc]] w (Cg (.bool true) w):=by
 have HP:=Ae (fun(w':Ag) (hb:Below w.heap.size w w')=>samePat_any s.a s.b s.cr pA pB s.cr.length pc qc w' rfl (by have:=hs.pn;omega) (h1.below hb) (h2.below hb));have HK:=Ae (fun(w':Ag) (hb:Below w.heap.size w w')=>sameStks_any s.l A B s.l.length cc dc w' rfl (by have:=hs.len;omega) (fun x hx=>by have:=hs.ls x hx;omega) (h3.below hb) (h4.below hb));clear h1 h2 h3 h4 hs;obtain⟨a,b,cr,⟨t,x,y⟩,l⟩:=s;dsimp only at HP HK⊢;obtain⟨n,hn⟩:=ey cr.length;obtain⟨m,hm⟩:=ey l.length;rw[hn]at HP⊢;rw[hm]at HK⊢;clear hn hm;have H:=((Bx.start w).new #[Aa Ab a,Aa Ab b,Ad pA n pc,Aa Ac t,Aa Ab x,Aa Ab y,Ad A m cc] 37 rfl).new #[Aa Ab a,Aa Ab b,Ad pB n qc,Aa Ac t,Aa Ab x,Aa Ab y,Ad B m dc] 37 (N:=w.heap.size+1) (by simp);go_enter Tryz.func21,Tryz.ntmps21;go_upto_region 1 with fail;obtain⟨N,hN⟩:=ez w.heap.size;rw[←hN]at H⊢;have HNN:=Ae hN;clear hN;obtain⟨P,hP⟩:=ey (N+1);rw[hP]at H⊢;clear hP;obtain⟨W1,hW1⟩:=ez ((w.alloc (.cells #[Aa Ab a,Aa Ab b,Ad pA n pc,Aa Ac t,Aa Ab x,Aa Ab y,Ad A m cc] 37)).alloc (.cells #[Aa Ab a,Aa Ab b,Ad pB n qc,Aa Ac t,Aa Ab x,Aa Ab y,Ad B m dc] 37));rw[←hW1]at H⊢;clear hW1;obtain⟨a0,a1,a2,a3,a4,a5,a6⟩:=De (H.blk 0 _ _ _ rfl);obtain⟨b0,b1,b2,b3,b4,b5,b6⟩:=De (H.blk 1 _ _ _ rfl);go_wp2_with fail;refine(HP.out _ H.below).mono ?_;rintro e w2 ⟨rfl,hb⟩;have H2:=H.call hb;clear a0 a1 a2 a3 a4 a5 a6 b0 b1 b2 b3 b4 b5 b6 H hb;obtain⟨a0,a1,a2,a3,a4,a5,a6⟩:=De (H2.blk 0 _ _ _ rfl);obtain⟨b0,b1,b2,b3,b4,b5,b6⟩:=De (H2.blk 1 _ _ _ rfl);go_wp2_with fail;refine(HK.out _ H2.below).mono ?_;rintro e w3 ⟨rfl,hb⟩;have H3:=H2.call hb;clear a0 a1 a2 a3 a4 a5 a6 b0 b1 b2 b3 b4 b5 b6 H2 hb;go_wp2_with fail;go_ret;exact⟨rfl,H3.below⟩
theorem allM_run {m:Mh}:∀{l:List Sn} {s:St},Gs s→∀(k:Nat) (a:St),(Em m l s).1[k]? =some a→Gs a∧((k=l.length∧(Em m l s).2=0∧(Em m l s).1.length=k+1)∨
  ∃hk:k<l.length,(∃b,(Em m l s).1[k+1]? =some b∧Gs b∧Hd m a l[k]=(0,some b))∨((Em m l s).1.length=k+1∧(Em m l s).2≠0∧Hd m a l[k]=((Em m l s).2,none)))
 |[],s,hg,k,a,h=>by
  have h1:[s][k]? =some a:=h
  cases k with
  |zero=>
   obtain rfl:=Option.some.inj h1;exact⟨hg,.inl ⟨rfl,rfl,rfl⟩⟩
  |succ k=>simp at h1
 |t::r,s,hg,k,a,h=>by
  cases hd:(Hd m s t).2 with
  |none=>
   rw[Ju hd]at h⊢
   cases k with
   |zero=>
    obtain rfl:=Option.some.inj h;refine⟨hg,.inr ⟨Nat.succ_pos _,.inr ⟨rfl,gQ hd,?_⟩⟩⟩;exact Prod.ext rfl hd
   |succ k=>simp at h
  |some s'=>
   have hg':=gR hg hd;rw[Jv hd]at h⊢
   cases k with
   |zero=>
    obtain rfl:=Option.some.inj h;refine⟨hg,.inr ⟨Nat.succ_pos _,.inl ⟨s',?_,hg'.1,Prod.ext hg'.2 hd⟩⟩⟩;rw[List.getElem?_cons_succ];exact Wc m r s'
   |succ k=>
    rw[List.getElem?_cons_succ]at h;obtain⟨h1,h2|⟨hk,h2⟩⟩:=allM_run hg'.1 k a h
    ·exact⟨h1,.inl ⟨by rw[h2.1];rfl,h2.2.1,by rw[List.length_cons,h2.2.2]⟩⟩
    ·refine⟨h1,.inr ⟨Nat.succ_lt_succ hk,?_⟩⟩;rcases h2 with⟨b,g1,g2,g3⟩|⟨g1,g2,g3⟩
     ·exact .inl ⟨b,by rw[List.getElem?_cons_succ];exact g1,g2,g3⟩
     ·exact .inr ⟨by rw[List.length_cons,g1],g2,g3⟩
theorem allM_wide {m:Mh} {a b:Int} (ha:m.a≤a) (hb:m.b≤b):∀{l:List Sn} {s:St},(Em m l s).2=0→Em ⟨a,b,m.c,m.st⟩ l s=Em m l s
 |[],_,_=>rfl
 |t::r,s,h=>by
  cases hd:(Hd m s t).2 with
  |none=>
   rw[Ju hd]at h;exact absurd h (gQ hd)
  |some s'=>
   have h1:Hd ⟨a,b,m.c,m.st⟩ s t=Hd m s t:=by
    unfold Hd at hd⊢
    split at hd
    ·cases hd
    ·rename_i g1
     split at hd
     ·cases hd
     ·rename_i g2;rw[if_neg g1,if_neg g2,if_neg (by dsimp only;omega),if_neg (by dsimp only;omega)]
   have h2:(Hd ⟨a,b,m.c,m.st⟩ s t).2=some s':=by rw[h1];exact hd
   rw[Jv hd]at h⊢;rw[Jv h2,allM_wide ha hb h]
abbrev zST:Array Ah:=#[Aa Ab 0,Aa Ab 0,Ad none 0 0,Aa Ac 0,Aa Ab 0,Aa Ab 0,Ad none 0 0]
abbrev zMT:Array Ah:=#[Aa Ab 0,Aa Ab 0,Aa Ab 0,Ad none 0 0]
theorem Bx.sw {w X:Ag} {a b c d:Nat×Array Ah×TypeId} (H:Bx w [a,b,c,d] X):Bx w [a,b,d,c] X:=H.perm (List.Perm.cons _ (List.Perm.cons _ (List.Perm.swap _ _ _)))
theorem set_last {α:Type} (l:List α) (x y:α):(l++[x]).set l.length y=l++[y]:=by simp
theorem put7l {w W:Ag} {l:List (Nat×Array Ah×TypeId)} {g:Nat} {t:TypeId} {x0 x1 x2 x3 x4 x5 x6:Ah} (H:Bx w (l++[(g,#[x0,x1,x2,x3,x4,x5,x6],t)]) W) (a b c d e f h:Ah):Bx w (l++[(g,#[a,b,c,d,e,f,h],t)]) (put7 W g a b c d e f h):=by
 have H2:=H.put7 l.length (g:=g) (t:=t) (x0:=x0) (x1:=x1) (x2:=x2) (x3:=x3) (x4:=x4) (x5:=x5) (x6:=x6) (by simp) a b c d e f h;rw[set_last]at H2;exact H2
theorem al3 {w X0 X:Ag} {l:List (Nat×Array Ah×TypeId)} {S:Ag→Prop} (H:Bx w l X) (hb:Below X0.heap.size X0 X) (hS:S X) (hSB:∀W' W'':Ag,S W'→Below X0.heap.size W' W''→S W'') (cs:Array Ah) (t:TypeId):
  ∃U,X.heap.size=U∧X0.heap.size≤U∧Bx w (l++[(U,cs,t)]) (X.alloc (.cells cs t))∧Below X.heap.size X (X.alloc (.cells cs t))∧S (X.alloc (.cells cs t))∧Below X0.heap.size X0 (X.alloc (.cells cs t)):=by
 have hal:Below X.heap.size X (X.alloc (.cells cs t)):=(Below.refl _ _).alloc (Aj _) _;exact⟨_,rfl,hb.size,H.new cs t rfl,hal,hSB _ _ hS (hal.mono hb.size),hb.trans (hal.mono hb.size)⟩
theorem cl3 {w X0 X X':Ag} {l:List (Nat×Array Ah×TypeId)} {S:Ag→Prop} (H:Bx w l X) (hb:Below X0.heap.size X0 X) (hS:S X) (hSB:∀W' W'':Ag,S W'→Below X0.heap.size W' W''→S W'') (hm:Below X.heap.size X X'):Bx w l X'∧S X'∧Below X0.heap.size X0 X':=
 ⟨H.call hm,hSB _ _ hS (hm.mono hb.size),hb.trans (hm.mono hb.size)⟩
section
variable {P:Program} {ops:Array Oper} {Q:Exit→Act→Ag→Prop} {md:Region.Mode} {S:Ag→Prop} {oi oj ok:Oper} {fuel:Nat} {listed:Array Bool} {a:Act} {w:Ag}
theorem rdy2 (i j:Nat) (h1:∀K':Act→Ag→Prop,Shut (∀a w,S w→(S w→wpAnyH P md ops Q S fuel (listed.setIfInBounds i true) a w)→K' a w)→if Region.wanted oi (yielded ops a.tmps)=true then Oper.wp P oi a w K' Q else K' (a.put oi.dst undef) w)
  (h2:∀K':Act→Ag→Prop,Shut (∀a w,S w→(S w→wpAnyH P md ops Q S fuel (listed.setIfInBounds j true) a w)→K' a w)→if Region.wanted oj (yielded ops a.tmps)=true then Oper.wp P oj a w K' Q else K' (a.put oj.dst undef) w)
  (hi:ops[i]? =some oi:=by exact rfl) (hj:ops[j]? =some oj:=by exact rfl) (hr:Region.ready md ops listed=[i,j]:=by kernel_rfl):wpAnyH P md ops Q S (fuel+1) listed a w:=
 Am hr (by simp) (An hi h1 (An hj h2 Ao))
theorem rdy3 (i j k:Nat) (h1:∀K':Act→Ag→Prop,Shut (∀a w,S w→(S w→wpAnyH P md ops Q S fuel (listed.setIfInBounds i true) a w)→K' a w)→if Region.wanted oi (yielded ops a.tmps)=true then Oper.wp P oi a w K' Q else K' (a.put oi.dst undef) w)
  (h2:∀K':Act→Ag→Prop,Shut (∀a w,S w→(S w→wpAnyH P md ops Q S fuel (listed.setIfInBounds j true) a w)→K' a w)→if Region.wanted oj (yielded ops a.tmps)=true then Oper.wp P oj a w K' Q else K' (a.put oj.dst undef) w)
  (h3:∀K':Act→Ag→Prop,Shut (∀a w,S w→(S w→wpAnyH P md ops Q S fuel (listed.setIfInBounds k true) a w)→K' a w)→if Region.wanted ok (yielded ops a.tmps)=true then Oper.wp P ok a w K' Q else K' (a.put ok.dst undef) w)
  (hi:ops[i]? =some oi:=by exact rfl) (hj:ops[j]? =some oj:=by exact rfl) (hk:ops[k]? =some ok:=by exact rfl) (hr:Region.ready md ops listed=[i,j,k]:=by kernel_rfl):wpAnyH P md ops Q S (fuel+1) listed a w:=
 Am hr (by simp) (An hi h1 (An hj h2 (An hk h3 Ao)))
end
def GotP (ss:List St) (er:Int) (us:List Nat) (gl:List Ah) (w:Ag):Prop:=(er≠0→gl=stZ)∧(er=0→∃t,ss.getLast? =some t∧Gs t∧LwS us w gl t)
theorem GotP.below {ss:List St} {er:Int} {us:List Nat} {gl:List Ah} {w w':Ag} (h:GotP ss er us gl w) (hb:Below w.heap.size w w'):GotP ss er us gl w':=
 ⟨h.1,fun h0=>by obtain⟨t,h1,h2,h3⟩:=h.2 h0;exact⟨t,h1,h2,h3.below hb⟩⟩
theorem GotP.put {ss:List St} {er:Int} {us:List Nat} {gl:List Ah} {w:Ag} (h:GotP ss er us gl w) {u:Nat} (hu:u∈us) (v0 v1 v2 v3 v4 v5 v6:Ah):GotP ss er us gl (put7 w u v0 v1 v2 v3 v4 v5 v6):=
 ⟨h.1,fun h0=>by obtain⟨t,h1,h2,h3⟩:=h.2 h0;exact⟨t,h1,h2,h3.put hu ..⟩⟩
theorem run7 {ss:List St} {er:Int} {s:St} {c0:List Ah} {w w':Ag} {e:Ending} {us:List Nat} {g0 g1 g3 g4 g5:Int} {g2 g6:Option Addr} {n2 c2 n6 c6:Nat} (hc:c0=[Aa Ab g0,Aa Ab g1,Ad g2 n2 c2,Aa Ac g3,Aa Ab g4,Aa Ab g5,Ad g6 n6 c6]) (hs:LwS us w c0 s) (hu:∀u∈us,u<w.heap.size) (h:Xi (ss,er) s c0 w e w'):
  Below w.heap.size w w'∧∃ga gb gAv gn gc gt gx gy gBv gm gd,e= .returned (.tuple #[.agg #[Aa Ab ga,Aa Ab gb,Ad gAv gn gc,Aa Ac gt,Aa Ab gx,Aa Ab gy,Ad gBv gm gd],Aa Ab ((ss.length-1:Nat):Int),Aa Ab er])∧
   GotP ss er us [Aa Ab ga,Aa Ab gb,Ad gAv gn gc,Aa Ac gt,Aa Ab gx,Aa Ab gy,Ad gBv gm gd] w':=by
 obtain⟨hb,⟨h0,rfl⟩|⟨h0,t,cs,hl,rfl,hg,hin,hcs⟩⟩:=h
 ·exact⟨hb,0,0,none,0,0,0,0,0,none,0,0,rfl,fun _=>rfl,fun h=>absurd h h0⟩
 ·dsimp only at h0;subst h0;rcases hcs with⟨rfl,rfl⟩|hk
  ·subst hc;exact⟨hb,_,_,_,_,_,_,_,_,_,_,_,rfl,fun h=>absurd rfl h,fun _=>⟨_,hl,hg,hs.below hb⟩⟩
  ·obtain⟨p,q,r,u,rfl,-,-,-⟩:=hin.held;exact⟨hb,_,_,_,_,_,_,_,_,_,_,_,rfl,fun h=>absurd rfl h,fun _=>⟨_,hl,hg,LwS.of hk hu⟩⟩
theorem do7 {o:Int×Option St} {w w':Ag} {e:Ending} (h:Yw o w e w'):Below w.heap.size w w'∧∃da db dAv dn dc dt dx dy dBv dm dd,e= .returned (.tuple #[.agg #[Aa Ab da,Aa Ab db,Ad dAv dn dc,Aa Ac dt,Aa Ab dx,Aa Ab dy,Ad dBv dm dd],Aa Ab o.1])∧
  ∀t,o.2=some t→La w.heap.size w' [Aa Ab da,Aa Ab db,Ad dAv dn dc,Aa Ac dt,Aa Ab dx,Aa Ab dy,Ad dBv dm dd] t:=by
 obtain⟨hb,⟨h0,rfl⟩|⟨t,cs,h0,rfl,hk⟩⟩:=h
 ·exact⟨hb,0,0,none,0,0,0,0,0,none,0,0,rfl,fun t h=>by rw[h0]at h;cases h⟩
 ·obtain⟨p,q,r,u,rfl,-,-,-⟩:=hk.st.held;exact⟨hb,_,_,_,_,_,_,_,_,_,_,_,rfl,fun t' h=>by rw[h0]at h;obtain rfl:=Option.some.inj h;exact hk⟩
theorem GotP.sub {ss:List St} {er:Int} {us vs:List Nat} {gl:List Ah} {w:Ag} (h:GotP ss er us gl w) (hs:∀v∈vs,v∈us):GotP ss er vs gl w:=
 ⟨h.1,fun h0=>by obtain⟨t,h1,h2,h3⟩:=h.2 h0;exact⟨t,h1,h2,h3.sub hs⟩⟩
theorem GotP.more {ss:List St} {er:Int} {us:List Nat} {gl:List Ah} {w:Ag} (h:GotP ss er us gl w) {u:Nat} (hu:w.heap.size≤u):GotP ss er (u::us) gl w:=
 ⟨h.1,fun h0=>by obtain⟨t,h1,h2,h3⟩:=h.2 h0;exact⟨t,h1,h2,h3.more hu⟩⟩
theorem lr_cases {m:Mh} {ss:List St} {er:Int} {k:Nat} {sk:St} {t:Sn} (h:(∃b,ss[k+1]? =some b∧Gs b∧Hd m sk t=(0,some b))∨(ss.length=k+1∧er≠0∧Hd m sk t=(er,none))):
  ((m.b<sk.box.r-sk.box.l∨m.b<sk.box.u-sk.box.d)∧er=3∧ss.length=k+1)∨
  (¬(m.b<sk.box.r-sk.box.l∨m.b<sk.box.u-sk.box.d)∧((m.a<(Mx sk.l:Int)∧er=16∧ss.length=k+1)∨
   (¬m.a<(Mx sk.l:Int)∧((∃b,ss[k+1]? =some b∧Gs b∧sk.do (Hl sk.box t)=(0,some b))∨(ss.length=k+1∧er≠0∧sk.do (Hl sk.box t)=(er,none)))))):=by
 unfold Hd at h;by_cases h1:m.b<sk.box.r-sk.box.l∨m.b<sk.box.u-sk.box.d
 ·rw[if_pos h1]at h;rcases h with⟨b,-,-,h⟩|⟨h2,-,h⟩
  ·cases h
  ·exact .inl ⟨h1,(congrArg Prod.fst h).symm,h2⟩
 ·rw[if_neg h1]at h;by_cases h3:m.a<(Mx sk.l:Int)
  ·rw[if_pos h3]at h;rcases h with⟨b,-,-,h⟩|⟨h2,-,h⟩
   ·cases h
   ·exact .inr ⟨h1,.inl ⟨h3,(congrArg Prod.fst h).symm,h2⟩⟩
  ·rw[if_neg h3]at h;exact .inr ⟨h1,.inr ⟨h3,h⟩⟩
def LwR (w:Ag) (a b:Nat×Array Ah×TypeId) (s:St) (m:Mh) (U V:Nat) (pA:Option Addr) (pc:Nat) (A:Option Addr) (cc:Nat) (B:Option Addr) (cB:Nat) (wx:Ag):Prop:=
 Bx w [a,b,(U,#[Aa Ab s.a,Aa Ab s.b,Ad pA s.cr.length pc,Aa Ac s.root.t,Aa Ab s.root.x,Aa Ab s.root.y,Ad A s.l.length cc],37),(V,#[Aa Ab m.a,Aa Ab m.b,Aa Ab m.c,Ad B m.st.length cB],41)] wx∧
 LwS [U,V] wx [Aa Ab s.a,Aa Ab s.b,Ad pA s.cr.length pc,Aa Ac s.root.t,Aa Ab s.root.x,Aa Ab s.root.y,Ad A s.l.length cc] s∧
 wx.ownsRow w.heap.size 56 3 (Ad B m.st.length cB) m.st.length (m.st.flatMap snC)
def LrI (w:Ag) (a b:Nat×Array Ah×TypeId) (m:Mh) (ss:List St) (er:Int) (U V G:Nat) (B:Option Addr) (cB mn:Nat) (gl:List Ah) (k:Nat) (wr:Ag):Prop:=∃sk pA1 pc1 A1 cc1,ss[k]? =some sk∧Gs sk∧
 LwS [U,V] wr [Aa Ab sk.a,Aa Ab sk.b,Ad pA1 sk.cr.length pc1,Aa Ac sk.root.t,Aa Ab sk.root.x,Aa Ab sk.root.y,Ad A1 sk.l.length cc1] sk∧
 Bx w [a,b,(U,#[Aa Ab sk.a,Aa Ab sk.b,Ad pA1 sk.cr.length pc1,Aa Ac sk.root.t,Aa Ab sk.root.x,Aa Ab sk.root.y,Ad A1 sk.l.length cc1],37),(V,#[Aa Ab m.a,Aa Ab m.b,Aa Ab m.c,Ad B mn cB],41),(G,gl.toArray,37)] wr∧
 wr.ownsRow w.heap.size 56 3 (Ad B mn cB) mn (m.st.flatMap snC)∧GotP ss er [U,V] gl wr
def LrU (w:Ag) (l:List (Nat×Array Ah×TypeId)) (o:Option St) (ss:List St) (er:Int) (us:List Nat) (gl:List Ah) (v:Ah) (mn:Nat) (xs:List Ah) (U2:Nat) (wx:Ag):Prop:=∃da db dAv dn dc dt dx dy dBv dm dd,
 Bx w (l++[(U2,#[Aa Ab da,Aa Ab db,Ad dAv dn dc,Aa Ac dt,Aa Ab dx,Aa Ab dy,Ad dBv dm dd],37)]) wx∧
 (∀t,o=some t→LwS us wx [Aa Ab da,Aa Ab db,Ad dAv dn dc,Aa Ac dt,Aa Ab dx,Aa Ab dy,Ad dBv dm dd] t)∧wx.ownsRow w.heap.size 56 3 v mn xs∧GotP ss er us gl wx
def LrE (w:Ag) (a b:Nat×Array Ah×TypeId) (m:Mh) (ss:List St) (er:Int) (U V G:Nat) (B:Option Addr) (cB mn:Nat) (gl:List Ah) (wx:Ag):Prop:=∃CU,
 Bx w [a,b,(U,CU,37),(V,#[Aa Ab m.a,Aa Ab m.b,Aa Ab m.c,Ad B mn cB],41),(G,gl.toArray,37)] wx∧GotP ss er [U,V] gl wx∧
 (er=0→∃sk pA1 pc1 A1 cc1,CU= #[Aa Ab sk.a,Aa Ab sk.b,Ad pA1 sk.cr.length pc1,Aa Ac sk.root.t,Aa Ab sk.root.x,Aa Ab sk.root.y,Ad A1 sk.l.length cc1]∧ss.getLast? =some sk∧Gs sk∧LwS [U,V] wx [Aa Ab sk.a,Aa Ab sk.b,Ad pA1 sk.cr.length pc1,Aa Ac sk.root.t,Aa Ab sk.root.x,Aa Ab sk.root.y,Ad A1 sk.l.length cc1] sk∧wx.ownsRow w.heap.size 56 3 (Ad B mn cB) mn (m.st.flatMap snC))
def LrZ (w:Ag) (l:List (Nat×Array Ah×TypeId)) (ss:List St) (Y:Nat) (gs:List Ah) (sk:St) (wx:Ag):Prop:=∃da db dAv dn dc dt dx dy dBv dm dd,Bx w (l++[(Y,#[Aa Ab da,Aa Ab db,Ad dAv dn dc,Aa Ac dt,Aa Ab dx,Aa Ab dy,Ad dBv dm dd],37)]) wx∧GotP ss 0 [Y] [Aa Ab da,Aa Ab db,Ad dAv dn dc,Aa Ac dt,Aa Ab dx,Aa Ab dy,Ad dBv dm dd] wx∧LwS [] wx gs sk
theorem lrn_any (x y:Nat) (ks:List Nat) (hk:∀k∈ks,k≤255) (n:Nat) (hn:n=ks.length) (hnm:n≤maxLen) (pF:Option Addr) (c:Nat) (a b z:Nat) (ha:a≤255) (hb:b≤255) (kt:List (Nat×Nat×Nat)) (n2:Nat) (hn2:n2=kt.length) (hnm2:n2≤maxLen) (pK:Option Addr) (c2:Nat) (w:Ag)
  (hrF:Rd w pF 1 n (ksV ks)) (hrK:Rd w pK 3 n2 (kt.flatMap k3C)) (hQ:Qf w) (hT:Tn w):
  Ai Tryz.prog 5 #[.agg #[Aa Ac x,Aa Ac y,Ad pF n c],.agg #[Aa Ac a,Aa Ac b,Aa Ac z,Ad pK n2 c2]] w (Cg (.bool true) w):=by
 have HOF:=Ae (fun(w':Ag) (hb:Below w.heap.size w w')=>rY x y ks hk n hn hnm pF c w' (hrF.below hb) (hQ.below hb) (hT.below hb));have HOK:=Ae (fun(w':Ag) (h:Below w.heap.size w w')=>wQ a b z ha hb kt n2 hn2 hnm2 pK c2 w' (hrK.below h));have HLV:=Ae (fun(w':Ag) (hb:Below w.heap.size w w')=>lN w' (hQ.below hb) (hT.below hb));have HQT:=Ae (fun(w':Ag) (hb:Below w.heap.size w w')=>show Qf w'∧Tn w' from⟨hQ.below hb,hT.below hb⟩);have HGS:=Ae (Ab5 x y ks);have HMO:=Ae (Aa7 a b z ha hb kt);have H:=((Bx.start w).new #[Aa Ac x,Aa Ac y,Ad pF n c] 24 rfl).new #[Aa Ac a,Aa Ac b,Aa Ac z,Ad pK n2 c2] 27 (N:=w.heap.size+1) (by simp);obtain⟨s,hs⟩:=ey (ofF x y ks);obtain⟨m,hm⟩:=ey (qV a b z kt);rw[hs]at HOF HGS;rw[hm]at HOK HMO;unfold dB at HOF;unfold cY at HOK;clear hk hn hnm ha hb hn2 hnm2 hrF hrK hQ hT hs hm;go_enter Tryz.func5,Tryz.ntmps5;go_upto_region 1 with fail;obtain⟨N,hN⟩:=ez w.heap.size;rw[←hN]at H⊢;have HNN:=Ae hN;clear hN;obtain⟨P,hP⟩:=ey (N+1);rw[hP]at H⊢;clear hP;obtain⟨W1,hW1⟩:=ez ((w.alloc (.cells #[Aa Ac x,Aa Ac y,Ad pF n c] 24)).alloc (.cells #[Aa Ac a,Aa Ac b,Aa Ac z,Ad pK n2 c2] 27));rw[←hW1]at H⊢;clear hW1;obtain⟨⟨a0,a1,a2⟩,-⟩:=Ci (H.blk 0 _ _ _ rfl);obtain⟨⟨b0,b1,b2,b3⟩,-⟩:=Co (H.blk 1 _ _ _ rfl);have hNl:=H.lt 0 rfl;have hPl:=H.lt 1 rfl;obtain⟨S,hSd⟩:∃S:Ag→Prop,S=fun W'=>W'.heap[N]? =W1.heap[N]? ∧W'.heap[P]? =W1.heap[P]? :=⟨_,rfl⟩
 have HSO:Hid (∀W',S W'→(W'.cell? ⟨N,0,none⟩=some (Aa Ac x)∧W'.cell? ⟨N,1,none⟩=some (Aa Ac y)∧W'.cell? ⟨N,2,none⟩=some (Ad pF n c))∧W'.cell? ⟨P,0,none⟩=some (Aa Ac a)∧W'.cell? ⟨P,1,none⟩=some (Aa Ac b)∧W'.cell? ⟨P,2,none⟩=some (Aa Ac z)∧W'.cell? ⟨P,3,none⟩=some (Ad pK n2 c2)):=Ae fun W' h=>by
  subst hSd;obtain⟨h1,h2⟩:=h;exact⟨⟨(Ch h1 _).trans a0,(Ch h1 _).trans a1,(Ch h1 _).trans a2⟩,(Ch h2 _).trans b0,(Ch h2 _).trans b1,(Ch h2 _).trans b2,(Ch h2 _).trans b3⟩
 have HSB:Hid (∀W' W'':Ag,S W'→Below W1.heap.size W' W''→S W''):=Ae fun W' W'' hs h=>by
  subst hSd;exact⟨(h.block N hNl).trans hs.1,(h.block P hPl).trans hs.2⟩
 have HSU:Hid (∀(W':Ag) (U:Nat) (v0 v1 v2 v3 v4 v5 v6:Ah),N≠U→P≠U→S W'→S (put7 W' U v0 v1 v2 v3 v4 v5 v6)):=Ae fun W' U v0 v1 v2 v3 v4 v5 v6 h1 h2 hs=>by
  subst hSd;exact⟨(Dz h1 v0 v1 v2 v3 v4 v5 v6).trans hs.1,(Dz h2 v0 v1 v2 v3 v4 v5 v6).trans hs.2⟩
 have HSC:Hid (∀(W':Ag) (V j:Nat) (v:Ah),N≠V→P≠V→S W'→S (W'.setCell ⟨V,j,none⟩ v)):=Ae fun W' V j v h1 h2 hs=>by
  subst hSd;exact⟨(Below.heap_setCell W' ⟨V,j,none⟩ v N h1).trans hs.1,(Below.heap_setCell W' ⟨V,j,none⟩ v P h2).trans hs.2⟩
 have hS0:S W1.drew:=by subst hSd;exact⟨rfl,rfl⟩
 clear hSd a0 a1 a2 b0 b1 b2 b3 hNl hPl;obtain⟨CF,hCF⟩:=ey (#[Value.int .u8 x,Aa Ac y,Ad pF n c]);obtain⟨CK,hCK⟩:=ey (#[Value.int .u8 a,Aa Ac b,Aa Ac z,Ad pK n2 c2]);rw[hCF,hCK]at H;have HCF:=Ae hCF;clear hCF hCK;go_cut [5,6] (fun s7 s8 wx=>∃U V pA pc A cc B cB,s7= .pointer (some ⟨U,0,none⟩)∧s8= .pointer (some ⟨V,0,none⟩)∧Hid (LwR w (N,CF,24) (P,CK,27) s m U V pA pc A cc B cB wx))
 case first=>
  refine Al (S:=S) (by kernel_rfl) hS0 (fun hS=>?_);have hb:Below W1.heap.size W1 W1.drew:=(Below.refl _ _).drew;have H:=H.drew;obtain⟨X0,hX0⟩:=ez W1.drew;rw[←hX0]at hb hS H⊢;clear hX0;clear hS0;refine Cf 0 ?_;refine Cf 2 ?_;refine rdy3 1 4 5 (fun K hK=>?_) (fun K hK=>?_) (fun K hK=>?_);go_simp;refine(HOF.out _ H.below).mono ?_;rintro ee X1 ⟨cs,rfl,hkp,hbm⟩;obtain⟨pA,pc,A,cc,rfl,-,-,-⟩:=hkp.st.held;have HS:=LwS.of (us:=[]) hkp (by simp);obtain⟨H,hS1,hb⟩:=cl3 H hb hS HSB.out hbm;refine hK.out _ _ hS1 (fun hS=>?_);clear hK K hbm hkp hS1;refine rdy3 3 4 5 (fun K hK=>?_) (fun K hK=>?_) (fun K hK=>?_);go_simp;refine(HOK.out _ H.below).mono ?_;rintro ee X2 ⟨B,cB,rfl,hown,hbm⟩;have hown:=Dr hown H.below.size;have HS:=HS.below hbm;obtain⟨H,hS1,hb⟩:=cl3 H hb hS HSB.out hbm;refine hK.out _ _ hS1 (fun hS=>?_);clear hK K hbm hS1;refine rdy2 4 5 (fun K hK=>?_) (fun K hK=>?_);obtain⟨U,hA,-,H,hal,hS1,hb⟩:=al3 H hb hS HSB.out zST 37;have HS:=(HS.more (Nat.le_of_eq hA)).below hal;have hown:=hown.alloc (.cells zST 37);go_simp;refine hK.out _ _ hS1 (fun hS=>?_);clear hK K hS1 hal
  try rw[hA]
  obtain⟨X3,hX3⟩:=ez (X2.alloc (.cells zST 37));rw[←hX3]at H hb hS HS hown⊢;clear hX3;clear hA;refine rdy 5 (fun K hK=>?_);obtain⟨V,hA,-,H,hal,hS1,hb⟩:=al3 H hb hS HSB.out zMT 41;have HS:=(HS.more (Nat.le_of_eq hA)).below hal;have hown:=hown.alloc (.cells zMT 41);go_simp;refine hK.out _ _ hS1 (fun hS=>?_);clear hK K hS1 hal
  try rw[hA]
  obtain⟨X4,hX4⟩:=ez (X3.alloc (.cells zMT 41));rw[←hX4]at H hb hS HS hown⊢;clear hX4;clear hA;rotate_left;obtain⟨V,hA,-,H,hal,hS1,hb⟩:=al3 H hb hS HSB.out zMT 41;have HS:=(HS.more (Nat.le_of_eq hA)).below hal;have hown:=hown.alloc (.cells zMT 41);go_simp;refine hK.out _ _ hS1 (fun hS=>?_);clear hK K hS1 hal
  try rw[hA]
  obtain⟨X3,hX3⟩:=ez (X2.alloc (.cells zMT 41));rw[←hX3]at H hb hS HS hown⊢;clear hX3;clear hA;refine rdy 4 (fun K hK=>?_);obtain⟨U,hA,-,H,hal,hS1,hb⟩:=al3 H hb hS HSB.out zST 37;have HS:=(HS.more (Nat.le_of_eq hA)).below hal;have hown:=hown.alloc (.cells zST 37);go_simp;refine hK.out _ _ hS1 (fun hS=>?_);clear hK K hS1 hal
  try rw[hA]
  obtain⟨X4,hX4⟩:=ez (X3.alloc (.cells zST 37));rw[←hX4]at H hb hS HS hown⊢;clear hX4;clear hA;have H:=H.sw;rotate_left;obtain⟨U,hA,-,H,hal,hS1,hb⟩:=al3 H hb hS HSB.out zST 37;have HS:=(HS.more (Nat.le_of_eq hA)).below hal
  skip
  go_simp;refine hK.out _ _ hS1 (fun hS=>?_);clear hK K hS1 hal
  try rw[hA]
  obtain⟨X2,hX2⟩:=ez (X1.alloc (.cells zST 37));rw[←hX2]at H hb hS HS⊢;clear hX2;clear hA;refine rdy2 3 5 (fun K hK=>?_) (fun K hK=>?_);go_simp;refine(HOK.out _ H.below).mono ?_;rintro ee X3 ⟨B,cB,rfl,hown,hbm⟩;have hown:=Dr hown H.below.size;have HS:=HS.below hbm;obtain⟨H,hS1,hb⟩:=cl3 H hb hS HSB.out hbm;refine hK.out _ _ hS1 (fun hS=>?_);clear hK K hbm hS1;refine rdy 5 (fun K hK=>?_);obtain⟨V,hA,-,H,hal,hS1,hb⟩:=al3 H hb hS HSB.out zMT 41;have HS:=(HS.more (Nat.le_of_eq hA)).below hal;have hown:=hown.alloc (.cells zMT 41);go_simp;refine hK.out _ _ hS1 (fun hS=>?_);clear hK K hS1 hal
  try rw[hA]
  obtain⟨X4,hX4⟩:=ez (X3.alloc (.cells zMT 41));rw[←hX4]at H hb hS HS hown⊢;clear hX4;clear hA;rotate_left;obtain⟨V,hA,-,H,hal,hS1,hb⟩:=al3 H hb hS HSB.out zMT 41;have HS:=(HS.more (Nat.le_of_eq hA)).below hal
  skip
  go_simp;refine hK.out _ _ hS1 (fun hS=>?_);clear hK K hS1 hal
  try rw[hA]
  obtain⟨X3,hX3⟩:=ez (X2.alloc (.cells zMT 41));rw[←hX3]at H hb hS HS⊢;clear hX3;clear hA;refine rdy 3 (fun K hK=>?_);go_simp;refine(HOK.out _ H.below).mono ?_;rintro ee X4 ⟨B,cB,rfl,hown,hbm⟩;have hown:=Dr hown H.below.size;have HS:=HS.below hbm;obtain⟨H,hS1,hb⟩:=cl3 H hb hS HSB.out hbm;refine hK.out _ _ hS1 (fun hS=>?_);clear hK K hbm hS1;rotate_left;obtain⟨V,hA,-,H,hal,hS1,hb⟩:=al3 H hb hS HSB.out zMT 41;have HS:=(HS.more (Nat.le_of_eq hA)).below hal
  skip
  go_simp;refine hK.out _ _ hS1 (fun hS=>?_);clear hK K hS1 hal
  try rw[hA]
  obtain⟨X2,hX2⟩:=ez (X1.alloc (.cells zMT 41));rw[←hX2]at H hb hS HS⊢;clear hX2;clear hA;refine rdy2 3 4 (fun K hK=>?_) (fun K hK=>?_);go_simp;refine(HOK.out _ H.below).mono ?_;rintro ee X3 ⟨B,cB,rfl,hown,hbm⟩;have hown:=Dr hown H.below.size;have HS:=HS.below hbm;obtain⟨H,hS1,hb⟩:=cl3 H hb hS HSB.out hbm;refine hK.out _ _ hS1 (fun hS=>?_);clear hK K hbm hS1;refine rdy 4 (fun K hK=>?_);obtain⟨U,hA,-,H,hal,hS1,hb⟩:=al3 H hb hS HSB.out zST 37;have HS:=(HS.more (Nat.le_of_eq hA)).below hal;have hown:=hown.alloc (.cells zST 37);go_simp;refine hK.out _ _ hS1 (fun hS=>?_);clear hK K hS1 hal
  try rw[hA]
  obtain⟨X4,hX4⟩:=ez (X3.alloc (.cells zST 37));rw[←hX4]at H hb hS HS hown⊢;clear hX4;clear hA;have H:=H.sw;rotate_left;obtain⟨U,hA,-,H,hal,hS1,hb⟩:=al3 H hb hS HSB.out zST 37;have HS:=(HS.more (Nat.le_of_eq hA)).below hal
  skip
  go_simp;refine hK.out _ _ hS1 (fun hS=>?_);clear hK K hS1 hal
  try rw[hA]
  obtain⟨X3,hX3⟩:=ez (X2.alloc (.cells zST 37));rw[←hX3]at H hb hS HS⊢;clear hX3;clear hA;refine rdy 3 (fun K hK=>?_);go_simp;refine(HOK.out _ H.below).mono ?_;rintro ee X4 ⟨B,cB,rfl,hown,hbm⟩;have hown:=Dr hown H.below.size;have HS:=HS.below hbm;obtain⟨H,hS1,hb⟩:=cl3 H hb hS HSB.out hbm;refine hK.out _ _ hS1 (fun hS=>?_);clear hK K hbm hS1;have H:=H.sw;rotate_left;obtain⟨U,hA,-,H,hal,hS1,hb⟩:=al3 H hb hS HSB.out zST 37
  skip
  skip
  go_simp;refine hK.out _ _ hS1 (fun hS=>?_);clear hK K hS1 hal
  try rw[hA]
  obtain⟨X1,hX1⟩:=ez (X0.alloc (.cells zST 37));rw[←hX1]at H hb hS⊢;clear hX1;clear hA;refine rdy2 1 5 (fun K hK=>?_) (fun K hK=>?_);go_simp;refine(HOF.out _ H.below).mono ?_;rintro ee X2 ⟨cs,rfl,hkp,hbm⟩;obtain⟨pA,pc,A,cc,rfl,-,-,-⟩:=hkp.st.held;have HS:=LwS.of (us:=[U]) hkp (by intro u hu;have h1:=H.lt 2 rfl;simp at hu;omega);obtain⟨H,hS1,hb⟩:=cl3 H hb hS HSB.out hbm;refine hK.out _ _ hS1 (fun hS=>?_);clear hK K hbm hkp hS1;refine rdy2 3 5 (fun K hK=>?_) (fun K hK=>?_);go_simp;refine(HOK.out _ H.below).mono ?_;rintro ee X3 ⟨B,cB,rfl,hown,hbm⟩;have hown:=Dr hown H.below.size;have HS:=HS.below hbm;obtain⟨H,hS1,hb⟩:=cl3 H hb hS HSB.out hbm;refine hK.out _ _ hS1 (fun hS=>?_);clear hK K hbm hS1;refine rdy 5 (fun K hK=>?_);obtain⟨V,hA,-,H,hal,hS1,hb⟩:=al3 H hb hS HSB.out zMT 41;have HS:=(HS.more (Nat.le_of_eq hA)).below hal;have hown:=hown.alloc (.cells zMT 41);go_simp;refine hK.out _ _ hS1 (fun hS=>?_);clear hK K hS1 hal
  try rw[hA]
  obtain⟨X4,hX4⟩:=ez (X3.alloc (.cells zMT 41));rw[←hX4]at H hb hS HS hown⊢;clear hX4;clear hA;rotate_left;obtain⟨V,hA,-,H,hal,hS1,hb⟩:=al3 H hb hS HSB.out zMT 41;have HS:=(HS.more (Nat.le_of_eq hA)).below hal
  skip
  go_simp;refine hK.out _ _ hS1 (fun hS=>?_);clear hK K hS1 hal
  try rw[hA]
  obtain⟨X3,hX3⟩:=ez (X2.alloc (.cells zMT 41));rw[←hX3]at H hb hS HS⊢;clear hX3;clear hA;refine rdy 3 (fun K hK=>?_);go_simp;refine(HOK.out _ H.below).mono ?_;rintro ee X4 ⟨B,cB,rfl,hown,hbm⟩;have hown:=Dr hown H.below.size;have HS:=HS.below hbm;obtain⟨H,hS1,hb⟩:=cl3 H hb hS HSB.out hbm;refine hK.out _ _ hS1 (fun hS=>?_);clear hK K hbm hS1;rotate_left;obtain⟨V,hA,-,H,hal,hS1,hb⟩:=al3 H hb hS HSB.out zMT 41
  skip
  skip
  go_simp;refine hK.out _ _ hS1 (fun hS=>?_);clear hK K hS1 hal
  try rw[hA]
  obtain⟨X2,hX2⟩:=ez (X1.alloc (.cells zMT 41));rw[←hX2]at H hb hS⊢;clear hX2;clear hA;refine rdy 1 (fun K hK=>?_);go_simp;refine(HOF.out _ H.below).mono ?_;rintro ee X3 ⟨cs,rfl,hkp,hbm⟩;obtain⟨pA,pc,A,cc,rfl,-,-,-⟩:=hkp.st.held;have HS:=LwS.of (us:=[U,V]) hkp (by intro u hu;have h1:=H.lt 2 rfl;have h2:=H.lt 3 rfl;simp at hu;omega);obtain⟨H,hS1,hb⟩:=cl3 H hb hS HSB.out hbm;refine hK.out _ _ hS1 (fun hS=>?_);clear hK K hbm hkp hS1;refine rdy 3 (fun K hK=>?_);go_simp;refine(HOK.out _ H.below).mono ?_;rintro ee X4 ⟨B,cB,rfl,hown,hbm⟩;have hown:=Dr hown H.below.size;have HS:=HS.below hbm;obtain⟨H,hS1,hb⟩:=cl3 H hb hS HSB.out hbm;refine hK.out _ _ hS1 (fun hS=>?_);clear hK K hbm hS1;rotate_left;obtain⟨V,hA,-,H,hal,hS1,hb⟩:=al3 H hb hS HSB.out zMT 41
  skip
  skip
  go_simp;refine hK.out _ _ hS1 (fun hS=>?_);clear hK K hS1 hal
  try rw[hA]
  obtain⟨X1,hX1⟩:=ez (X0.alloc (.cells zMT 41));rw[←hX1]at H hb hS⊢;clear hX1;clear hA;refine rdy2 1 4 (fun K hK=>?_) (fun K hK=>?_);go_simp;refine(HOF.out _ H.below).mono ?_;rintro ee X2 ⟨cs,rfl,hkp,hbm⟩;obtain⟨pA,pc,A,cc,rfl,-,-,-⟩:=hkp.st.held;have HS:=LwS.of (us:=[V]) hkp (by intro u hu;have h1:=H.lt 2 rfl;simp at hu;omega);obtain⟨H,hS1,hb⟩:=cl3 H hb hS HSB.out hbm;refine hK.out _ _ hS1 (fun hS=>?_);clear hK K hbm hkp hS1;refine rdy2 3 4 (fun K hK=>?_) (fun K hK=>?_);go_simp;refine(HOK.out _ H.below).mono ?_;rintro ee X3 ⟨B,cB,rfl,hown,hbm⟩;have hown:=Dr hown H.below.size;have HS:=HS.below hbm;obtain⟨H,hS1,hb⟩:=cl3 H hb hS HSB.out hbm;refine hK.out _ _ hS1 (fun hS=>?_);clear hK K hbm hS1;refine rdy 4 (fun K hK=>?_);obtain⟨U,hA,-,H,hal,hS1,hb⟩:=al3 H hb hS HSB.out zST 37;have HS:=(HS.more (Nat.le_of_eq hA)).below hal;have hown:=hown.alloc (.cells zST 37);go_simp;refine hK.out _ _ hS1 (fun hS=>?_);clear hK K hS1 hal
  try rw[hA]
  obtain⟨X4,hX4⟩:=ez (X3.alloc (.cells zST 37));rw[←hX4]at H hb hS HS hown⊢;clear hX4;clear hA;have H:=H.sw;rotate_left;obtain⟨U,hA,-,H,hal,hS1,hb⟩:=al3 H hb hS HSB.out zST 37;have HS:=(HS.more (Nat.le_of_eq hA)).below hal
  skip
  go_simp;refine hK.out _ _ hS1 (fun hS=>?_);clear hK K hS1 hal
  try rw[hA]
  obtain⟨X3,hX3⟩:=ez (X2.alloc (.cells zST 37));rw[←hX3]at H hb hS HS⊢;clear hX3;clear hA;refine rdy 3 (fun K hK=>?_);go_simp;refine(HOK.out _ H.below).mono ?_;rintro ee X4 ⟨B,cB,rfl,hown,hbm⟩;have hown:=Dr hown H.below.size;have HS:=HS.below hbm;obtain⟨H,hS1,hb⟩:=cl3 H hb hS HSB.out hbm;refine hK.out _ _ hS1 (fun hS=>?_);clear hK K hbm hS1;have H:=H.sw;rotate_left;obtain⟨U,hA,-,H,hal,hS1,hb⟩:=al3 H hb hS HSB.out zST 37
  skip
  skip
  go_simp;refine hK.out _ _ hS1 (fun hS=>?_);clear hK K hS1 hal
  try rw[hA]
  obtain⟨X2,hX2⟩:=ez (X1.alloc (.cells zST 37));rw[←hX2]at H hb hS⊢;clear hX2;clear hA;refine rdy 1 (fun K hK=>?_);go_simp;refine(HOF.out _ H.below).mono ?_;rintro ee X3 ⟨cs,rfl,hkp,hbm⟩;obtain⟨pA,pc,A,cc,rfl,-,-,-⟩:=hkp.st.held;have HS:=LwS.of (us:=[V,U]) hkp (by intro u hu;have h1:=H.lt 2 rfl;have h2:=H.lt 3 rfl;simp at hu;omega);obtain⟨H,hS1,hb⟩:=cl3 H hb hS HSB.out hbm;refine hK.out _ _ hS1 (fun hS=>?_);clear hK K hbm hkp hS1;refine rdy 3 (fun K hK=>?_);go_simp;refine(HOK.out _ H.below).mono ?_;rintro ee X4 ⟨B,cB,rfl,hown,hbm⟩;have hown:=Dr hown H.below.size;have HS:=HS.below hbm;obtain⟨H,hS1,hb⟩:=cl3 H hb hS HSB.out hbm;refine hK.out _ _ hS1 (fun hS=>?_);clear hK K hbm hS1;have H:=H.sw;rotate_left
  all_goals
   obtain⟨z0,z1,z2,z3,z4,z5,z6⟩:=De (H.blk 2 _ _ _ rfl);obtain⟨y0,y1,y2,y3,y4,y5,y6⟩:=Jm (H.blk 2 _ _ _ rfl);have hSU:=HSU.out _ U (Aa Ab s.a) (Aa Ab s.b) (Ad pA s.cr.length pc) (Aa Ac s.root.t) (Aa Ab s.root.x) (Aa Ab s.root.y) (Ad A s.l.length cc) (H.ne 0 2 (by decide) rfl rfl) (H.ne 1 2 (by decide) rfl rfl) hS;have hown:=Lt hown (H.blk 2 _ _ _ rfl) (by decide) (Aa Ab s.a) (Aa Ab s.b) (Ad pA s.cr.length pc) (Aa Ac s.root.t) (Aa Ab s.root.x) (Aa Ab s.root.y) (Ad A s.l.length cc);have HS:=HS.put (u:=U) (by simp) (Aa Ab s.a) (Aa Ab s.b) (Ad pA s.cr.length pc) (Aa Ac s.root.t) (Aa Ab s.root.x) (Aa Ab s.root.y) (Ad A s.l.length cc);have H:=H.put7 2 rfl (Aa Ab s.a) (Aa Ab s.b) (Ad pA s.cr.length pc) (Aa Ac s.root.t) (Aa Ab s.root.x) (Aa Ab s.root.y) (Ad A s.l.length cc);have hSU:=Ae hSU;refine rdy 6 (fun K hK=>?_);go_simp;refine hK.out _ _ hSU.out (fun hS=>?_);clear hK K z0 z1 z2 z3 z4 z5 z6 y0 y1 y2 y3 y4 y5 y6 hSU;unfold put7 at H HS hown hS;obtain⟨Y9,hY9⟩:=ez (((((((X4.setCell ⟨U,0,none⟩ (Aa Ab s.a)).setCell ⟨U,1,none⟩ (Aa Ab s.b)).setCell ⟨U,2,none⟩ (Ad pA s.cr.length pc)).setCell ⟨U,3,none⟩ (Aa Ac s.root.t)).setCell ⟨U,4,none⟩ (Aa Ab s.root.x)).setCell ⟨U,5,none⟩ (Aa Ab s.root.y)).setCell ⟨U,6,none⟩ (Ad A s.l.length cc));rw[←hY9]at H HS hown hS⊢;clear hY9;obtain⟨⟨z0,z1,z2,z3⟩,y0,y1,y2,y3⟩:=Co (H.blk 3 _ _ _ rfl);have hSV:=Ae (HSC.out _ V 3 (Ad B m.st.length cB) (H.ne 0 3 (by decide) rfl rfl) (H.ne 1 3 (by decide) rfl rfl) (HSC.out _ V 2 (Aa Ab m.c) (H.ne 0 3 (by decide) rfl rfl) (H.ne 1 3 (by decide) rfl rfl) (HSC.out _ V 1 (Aa Ab m.b) (H.ne 0 3 (by decide) rfl rfl) (H.ne 1 3 (by decide) rfl rfl) (HSC.out _ V 0 (Aa Ab m.a) (H.ne 0 3 (by decide) rfl rfl) (H.ne 1 3 (by decide) rfl rfl) hS))))
   have HS:=(((HS.set (u:=V) (by simp) 0 (Aa Ab m.a)).set (u:=V) (by simp) 1 (Aa Ab m.b)).set (u:=V) (by simp) 2 (Aa Ab m.c)).set (u:=V) (by simp) 3 (Ad B m.st.length cB);have H1:=H.set 3 0 rfl (Aa Ab m.a);have H2:=H1.set 3 1 rfl (Aa Ab m.b);have H3:=H2.set 3 2 rfl (Aa Ab m.c);have hown:=Qu (Qu (Qu (Qu hown (H.blk 3 _ _ _ rfl) (by decide) 0 (Aa Ab m.a)) (H1.blk 3 _ _ _ rfl) (by decide) 1 (Aa Ab m.b)) (H2.blk 3 _ _ _ rfl) (by decide) 2 (Aa Ab m.c)) (H3.blk 3 _ _ _ rfl) (by decide) 3 (Ad B m.st.length cB);have H:=H3.set 3 3 rfl (Ad B m.st.length cB);have HREL:=Ae (show LwR w (N,CF,24) (P,CK,27) s m U V pA pc A cc B cB _ from⟨H,HS.sub (by simp),hown⟩);clear H H1 H2 H3 hown HS;refine rdy 7 (fun K hK=>?_);go_simp;refine hK.out _ _ hSV.out (fun hS=>?_);clear hK K z0 z1 z2 z3 y0 y1 y2 y3 hSV;refine Ak (by kernel_rfl) ?_ _;go_wp2_with fail;go_meet;exact⟨U,V,pA,pc,A,cc,B,cB,rfl,rfl,HREL⟩
 case rest=>
 obtain⟨U,V,pA,pc,A,cc,B,cB,rfl,rfl,HL⟩:=hcut;clear hS0 HSO HSB HSU HSC H HOK;obtain⟨H,HS,hown⟩:=HL.out;obtain⟨W2,rfl⟩:=ez wc;have hq:=HQT.out _ H.below;have hp:=Do HS.st;have HRN:=Ae (Qx m s HMO.out B m.st.length cB rfl pA pc A cc W2 (Rd.of_own hown) HGS.out hp.1 hp.2.1 hp.2.2 hq.1 hq.2);have HAR:=Ae (fun k a h=>allM_run (m:=m) (l:=m.st) (s:=s) HGS.out k a h);have HS0:=Ae (Wc m m.st s);have hmq:=Mh.ok_iff.1 HMO.out;have HWD:=Ae (fun h=>allM_wide (m:=m) (a:=1024) (b:=256) hmq.2.1.2.1 hmq.2.1.2.2.2.1 (l:=m.st) (s:=s) h);have HM2:=Ae (show(Mh.mk 1024 256 m.c m.st).ok=true from Mh.ok_iff.2 ⟨hmq.1,⟨by dsimp only;decide,by dsimp only;decide,by dsimp only;decide,by dsimp only;decide,hmq.2.1.2.2.2.2⟩,hmq.2.2⟩);have HMQ:=Ae hmq;obtain⟨⟨ss,er⟩,hR⟩:=ey (Em m m.st s);rw[hR]at HRN HAR HS0 HWD;dsimp only at HAR HS0 HWD;obtain⟨mn,hmn⟩:=ey m.st.length;rw[hmn]at HRN H hown;have HMN:=Ae hmn;have hpos:0<ss.length:=(As.1 HS0.out).1;have hm16:mn≤16:=by have:=HMQ.out.1;omega
 have HOW:=Ae hown;have HLS:=Ae HS
 have hUV:∀u∈[U,V],u<W2.heap.size:=by
  have h1:=H.lt 2 rfl;have h2:=H.lt 3 rfl;intro u hu;simp at hu;omega
 have HUV:=Ae hUV;clear hq hp hmq hmn hown HS HL hR hUV;obtain⟨a0,a1,a2,a3,a4,a5,a6⟩:=De (H.blk 2 _ _ _ rfl);obtain⟨⟨m0,m1,m2,m3⟩,-⟩:=Co (H.blk 3 _ _ _ rfl);go_wp2_with fail;refine HRN.out.mono ?_;intro ee w3 hr;obtain⟨hb,ga,gb,gAv,gn,gc,gt,gx,gy,gBv,gm,gd,rfl,hgot⟩:=run7 rfl HLS.out HUV.out hr;obtain⟨nn,hnn⟩:=ey (ss.length-1);rw[hnn];have HNN:=Ae hnn;have hal:=(Below.refl w3.heap.size w3).alloc (Aj _) (.cells #[Aa Ab ga,Aa Ab gb,Ad gAv gn gc,Aa Ac gt,Aa Ab gx,Aa Ab gy,Ad gBv gm gd] 37);have hbz:=hb.trans (hal.mono hb.size);obtain⟨G,hG⟩:=ey w3.heap.size;have H4:=(H.call hb).new #[Aa Ab ga,Aa Ab gb,Ad gAv gn gc,Aa Ac gt,Aa Ab gx,Aa Ab gy,Ad gBv gm gd] 37 hG;have hg4:=hgot.below hal;have HS4:=HLS.out.below hbz;have ho4:=Ck HOW.out (Aj _) hbz;clear a0 a1 a2 a3 a4 a5 a6 m0 m1 m2 m3 hb H HRN hr hgot hal hbz hnn;go_upto_region 3 with fail
 try rw[hG]
 obtain⟨W4,hW4⟩:=ez (w3.alloc (.cells #[Aa Ab ga,Aa Ab gb,Ad gAv gn gc,Aa Ac gt,Aa Ab gx,Aa Ab gy,Ad gBv gm gd] 37));rw[←hW4]at H4 HS4 ho4 hg4⊢;clear hW4;have HI0:Hid (LrI w (N,CF,24) (P,CK,27) m ss er U V G B cB mn [Aa Ab ga,Aa Ab gb,Ad gAv gn gc,Aa Ac gt,Aa Ab gx,Aa Ab gy,Ad gBv gm gd] 0 W4):=Ae ⟨s,pA,pc,A,cc,HS0.out,HGS.out,HS4,H4,ho4,hg4⟩;obtain⟨gl,hgl⟩:∃z:List Ah,[Aa Ab ga,Aa Ab gb,Ad gAv gn gc,Aa Ac gt,Aa Ab gx,Aa Ab gy,Ad gBv gm gd]=z:=⟨_,rfl⟩;rw[hgl]at HI0;clear H4 HS4 ho4 hg4 hG hgl;go_upto_block 0 with fail;go_cut [10,11] (fun s10 s11 wx=>∃k:Nat,s10= Aa Ab k∧s11= Aa Ab er∧k+1=ss.length∧Hid (LrE w (N,CF,24) (P,CK,27) m ss er U V G B cB mn gl wx))
 case first=>
  go_wp2_with fail
  go_loopw [10,11] (fun s10 s11 wr=>∃k:Nat,k<ss.length∧s10= Aa Ab k∧s11= Aa Ab 0∧Hid (LrI w (N,CF,24) (P,CK,27) m ss er U V G B cB mn gl k wr)) (fun s10 _ _=>ss.length-(intOf s10).toNat)
  case atStart=>exact⟨0,hpos,rfl,rfl,HI0⟩
  case round=>
   obtain⟨k,hk,rfl,rfl,HZ⟩:=hrel;clear HI0 hpos;obtain⟨sk,pA1,pc1,A1,cc1,hsk,hgk,hS,hB,ho,hg⟩:=HZ.out;obtain⟨-,hcs⟩:=HAR.out k sk hsk;rcases hcs with⟨h1,h2,h3⟩|⟨hkm,hcs⟩
   ·obtain rfl:k=mn:=by have:=HMN.out;omega
    have q0:¬(k:Int)<(k:Int):=by omega
    have HE:=Ae (show LrE w (N,CF,24) (P,CK,27) m ss er U V G B cB k gl wr from⟨_,hB,hg,fun _=>⟨sk,pA1,pc1,A1,cc1,rfl,by rw[List.getLast?_eq_getElem?,h3,Nat.add_sub_cancel];exact hsk,hgk,hS,ho⟩⟩);have HK:=Ae h3;have HER:=Ae h2;obtain⟨⟨-,-,-,m3⟩,-⟩:=Co (hB.blk 3 _ _ _ rfl);clear hsk hgk hS hB ho hg h1 h2 h3 HZ hk;go_wp2_with fail;go_meet;exact⟨k,rfl,by rw[HER.out],HK.out.symm,HE⟩
   ·have hk2:k<mn:=by have:=HMN.out;omega
    have q0:(k:Int)<(mn:Int):=by omega
    have hval:=HMQ.out.2.2 m.st[k] (Au hkm);have hmc:=HMQ.out.2.1;obtain⟨kb,ko,hBq,hkb,t0,t1,t2⟩:=jM (Rd.of_own ho) k hkm;have hpt:=Do hS.st;have hq:=HQT.out _ hB.below;have hbd:=hgk.box;have hlen:=hgk.len;have hbx:=fun(w':Ag) (h:Below wr.heap.size wr w')=>eO sk pA1 pc1 A1 cc1 w' hgk (hpt.2.2.below h);have hht:=fun(w':Ag) (h:Below wr.heap.size wr w')=>dZ A1 sk.l sk.l.length cc1 w' rfl (hpt.2.2.below h) (by omega);have hlf:=fun(w':Ag)=>aH sk.box m.st[k] hbd hval.1 ⟨by omega,hval.2.2⟩ w';have hdd:=fun(w':Ag) (h:Below wr.heap.size wr w')=>Xt sk (Hl sk.box m.st[k]) pA1 pc1 A1 cc1 w' hgk hpt.1 (hpt.2.1.below h) (hpt.2.2.below h) (hq.1.below h) (hq.2.below h);have hcc:=lr_cases hcs;obtain⟨fd,hfd⟩:=ey (Hl sk.box m.st[k]);rw[hfd]at hlf hdd hcc;obtain⟨⟨l,r,d,u⟩,hbb⟩:=ey sk.box;rw[hbb]at hbx hlf hbd hcc;obtain⟨⟨tk,tp,tv⟩,ht⟩:=ey (m.st[k]);rw[ht]at t0 t1 t2 hlf hval;obtain⟨hh,hhh⟩:=ey (Mx sk.l);rw[hhh]at hht hcc;obtain⟨⟨f1,o1⟩,hdr⟩:=ey (sk.do fd);rw[hdr]at hdd hcc;obtain⟨lk,hlk⟩:=ey sk.l.length;rw[hlk]at hht;unfold bbV at hbx hlf;unfold Bb.bd at hbd;dsimp only at t0 t1 t2 hbx hlf hval hbd hcc;have HBX:=Ae hbx;have HHT:=Ae hht;have HLF:=Ae hlf;have HDD:=Ae hdd;have HCC:=Ae hcc;have HLk:=Ae hS;have HOk:=Ae ho;have HG:=Ae hg;have HLL:=Ae hlk;subst hBq;have e1:wrap64 (r-l)=r-l:=Bw _ (by omega);have e2:wrap64 (u-d)=u-d:=Bw _ (by omega);clear hsk hgk hS ho hg hval hmc hpt hq hbd hlen hbx hht hlf hdd hcc hcs hfd hbb ht hhh hdr hlk HZ hkm;obtain⟨a0,a1,a2,a3,a4,a5,a6⟩:=De (hB.blk 2 _ _ _ rfl);obtain⟨⟨-,-,-,m3⟩,-⟩:=Co (hB.blk 3 _ _ _ rfl);go_wp2_with fail;refine(HBX.out _ (Below.refl _ _)).mono ?_;rintro ee w7 ⟨rfl,hb⟩;obtain⟨X,hX⟩:=ey w7.heap.size;have H7:=(hB.call hb).new #[Aa Ab l,Aa Ab r,Aa Ab d,Aa Ab u] 52 hX
    have hb7:=hb.trans (((Below.refl w7.heap.size w7).alloc (Aj _) (.cells #[Aa Ab l,Aa Ab r,Aa Ab d,Aa Ab u] 52)).mono hb.size);have hrr:∀f v,wr.cell? ⟨kb,ko+k*3+f,none⟩=some v→(w7.alloc (.cells #[Aa Ab l,Aa Ab r,Aa Ab d,Aa Ab u] 52)).cell? ⟨kb,ko+k*3+f,none⟩=some v:=fun f v h=>Ce hb7 h;have hkb7:=Bm hkb hb7.size;clear a0 a1 a2 a3 a4 a5 a6 m3 hb hB HBX;go_upto_region 7 with fail
    try rw[hX]
    obtain⟨W7,hW7⟩:=ez (w7.alloc (.cells #[Aa Ab l,Aa Ab r,Aa Ab d,Aa Ab u] 52));rw[←hW7]at H7 hb7 hrr hkb7⊢;clear hW7;have p0:=hrr 0 _ (by rw[Nat.add_zero];exact t0);have p1:=hrr 1 _ t1;have p2:=hrr 2 _ t2;rw[Nat.add_zero]at p0;have HPP:=Ae (And.intro p0 (And.intro p1 p2));clear t0 t1 t2 hX hrr p0 p1 p2;obtain⟨⟨-,m1,-,-⟩,-⟩:=Co (H7.blk 3 _ _ _ rfl);obtain⟨⟨b0,b1,b2,b3⟩,-⟩:=Co (H7.blk 5 _ _ _ rfl);have HB7:=Ae hb7;rcases HCC.out with⟨hw,her,hle⟩|⟨hw,hcc⟩
    ·have HER:=Ae her;have HLE:=Ae hle;have HE:=Ae (show LrE w (N,CF,24) (P,CK,27) m ss er U V G (some ⟨kb,ko,none⟩) cB mn gl W7 from⟨_,H7.upto 5,HG.out.below hb7,fun h=>absurd (her.symm.trans h) (by decide)⟩);clear H7 hb7 her hle hkb7 HCC;by_cases hw1:m.b<r-l
     ·clear hw;go_wp2_with fail;go_meet;exact⟨k,rfl,by rw[HER.out],HLE.out.symm,HE⟩
     ·have hw2:m.b<u-d:=by omega
      clear hw;go_wp2_with fail;go_meet;exact⟨k,rfl,by rw[HER.out],HLE.out.symm,HE⟩
    ·have hw1:¬m.b<r-l:=fun h=>hw (.inl h);have hw2:¬m.b<u-d:=fun h=>hw (.inr h);have HC2:=Ae hcc;clear HCC hcc hw hb7;go_upto_region 9 with fail;clear m1 b0 b1 b2 b3 hw1 hw2 e1 e2;obtain⟨-,-,-,-,-,-,a6⟩:=De (H7.blk 2 _ _ _ rfl);rw[HLL.out]at a6;obtain⟨⟨m0,-,-,-⟩,-⟩:=Co (H7.blk 3 _ _ _ rfl);obtain⟨S,hSd⟩:∃S:Ag→Prop,S=fun W'=>W'.cell? ⟨V,0,none⟩=some (Aa Ab m.a)∧W'.cell? ⟨U,6,none⟩=some (Ad A1 lk cc1):=⟨_,rfl⟩;have HSO:Hid (∀W',S W'→W'.cell? ⟨V,0,none⟩=some (Aa Ab m.a)∧W'.cell? ⟨U,6,none⟩=some (Ad A1 lk cc1)):=Ae fun W' h=>by subst hSd;exact h
     have HSB:Hid (∀W' W'',S W'→Below W'.heap.size W' W''→S W''):=Ae fun W' W'' hs h=>by
      subst hSd;exact⟨Ce h hs.1,Ce h hs.2⟩
     have hS0:S W7.drew:=by subst hSd;exact⟨m0,a6⟩
     clear hSd m0 a6;refine Al (S:=S) (by kernel_rfl) hS0 (fun hS=>?_);have H8:=H7.drew;have hb8:=HB7.out.drew;have hpd:W7.drew.cell? ⟨kb,ko+k*3,none⟩=some (Aa Ac tk)∧W7.drew.cell? ⟨kb,ko+k*3+1,none⟩=some (Aa Ab tp)∧W7.drew.cell? ⟨kb,ko+k*3+2,none⟩=some (.bool tv):=HPP.out;obtain⟨X0,hX0⟩:=ez W7.drew;rw[←hX0]at hS H8 hb8 hpd⊢;clear hX0;clear hS0 H7;refine Cf 0 ?_;refine Cf 1 ?_;refine Cf 3 ?_;refine Cf 4 ?_;refine rdy 2 (fun K hK=>?_);go_simp;refine(HHT.out _ hb8).mono ?_;rintro ee X1 ⟨rfl,hbm⟩;have H9:=H8.call hbm;have hb9:=hb8.trans (hbm.mono hb8.size);have hkb9:=Bm hkb hb9.size;refine hK.out _ _ (HSB.out _ _ hS hbm) (fun hS=>?_);clear hK K hb8 H8;refine Cf 5 ?_;refine Ak (by kernel_rfl) ?_ _;clear hS HSB HSO hkb7;have hpp:=And.intro (Ce hbm hpd.1) (And.intro (Ce hbm hpd.2.1) (Ce hbm hpd.2.2));have HP9:=Ae hpp;have HB9:=Ae hb9;clear hbm hpp hpd HPP HB7;by_cases hw3:m.a<(hh:Int)
     ·rcases HC2.out with⟨-,her,hle⟩|⟨hn,-⟩
      ·have HER:=Ae her;have HLE:=Ae hle;have HE:=Ae (show LrE w (N,CF,24) (P,CK,27) m ss er U V G (some ⟨kb,ko,none⟩) cB mn gl X1 from⟨_,H9.upto 5,HG.out.below hb9,fun h=>absurd (her.symm.trans h) (by decide)⟩);clear H9 hb9 her hle hkb9;go_wp2_with fail;go_meet;exact⟨k,rfl,by rw[HER.out],HLE.out.symm,HE⟩
      ·omega
     ·have hcd:(∃b,ss[k+1]? =some b∧Gs b∧(f1,o1)=(0,some b))∨(ss.length=k+1∧er≠0∧(f1,o1)=(er,none)):=by
       rcases HC2.out with⟨h,-⟩|⟨-,h⟩
       ·exact absurd h hw3
       ·exact h
      have HCD:=Ae hcd;clear hcd HC2 hb9;go_upto_region 11 with fail;clear hw3;obtain⟨W7,rfl⟩:=ez X1;obtain⟨p0,p1,p2⟩:=HP9.out;obtain⟨a0,a1,a2,a3,a4,a5,a6⟩:=De (H9.blk 2 _ _ _ rfl);obtain⟨⟨-,-,-,m3⟩,-⟩:=Co (H9.blk 3 _ _ _ rfl);obtain⟨⟨b0,b1,b2,b3⟩,-⟩:=Co (H9.blk 5 _ _ _ rfl);have hUl:=H9.lt 2 rfl;have hVl:=H9.lt 3 rfl;have hXl:=H9.lt 5 rfl;obtain⟨S,hSd⟩:∃S:Ag→Prop,S=fun W'=>W'.heap[U]? =W7.heap[U]? ∧W'.heap[V]? =W7.heap[V]? ∧W'.heap[X]? =W7.heap[X]? ∧W'.heap[kb]? =W7.heap[kb]? :=⟨_,rfl⟩
      have HSO:Hid (∀W',S W'→(W'.cell? ⟨U,0,none⟩=some (Aa Ab sk.a)∧W'.cell? ⟨U,1,none⟩=some (Aa Ab sk.b)∧W'.cell? ⟨U,2,none⟩=some (Ad pA1 sk.cr.length pc1)∧W'.cell? ⟨U,3,none⟩=some (Aa Ac sk.root.t)∧W'.cell? ⟨U,4,none⟩=some (Aa Ab sk.root.x)∧W'.cell? ⟨U,5,none⟩=some (Aa Ab sk.root.y)∧W'.cell? ⟨U,6,none⟩=some (Ad A1 sk.l.length cc1))∧W'.cell? ⟨V,3,none⟩=some (Ad (some ⟨kb,ko,none⟩) mn cB)∧(W'.cell? ⟨X,0,none⟩=some (Aa Ab l)∧W'.cell? ⟨X,1,none⟩=some (Aa Ab r)∧W'.cell? ⟨X,2,none⟩=some (Aa Ab d)∧W'.cell? ⟨X,3,none⟩=some (Aa Ab u))∧W'.cell? ⟨kb,ko+k*3,none⟩=some (Aa Ac tk)∧W'.cell? ⟨kb,ko+k*3+1,none⟩=some (Aa Ab tp)∧W'.cell? ⟨kb,ko+k*3+2,none⟩=some (.bool tv)):=Ae fun W' h=>by
       subst hSd;obtain⟨h1,h2,h3,h4⟩:=h;exact⟨⟨(Ch h1 _).trans a0,(Ch h1 _).trans a1,(Ch h1 _).trans a2,(Ch h1 _).trans a3,(Ch h1 _).trans a4,(Ch h1 _).trans a5,(Ch h1 _).trans a6⟩,(Ch h2 _).trans m3,⟨(Ch h3 _).trans b0,(Ch h3 _).trans b1,(Ch h3 _).trans b2,(Ch h3 _).trans b3⟩,(Ch h4 _).trans p0,(Ch h4 _).trans p1,(Ch h4 _).trans p2⟩
      have HSB:Hid (∀W' W'':Ag,S W'→Below W7.heap.size W' W''→S W''):=Ae fun W' W'' hs h=>by
       subst hSd;exact⟨(h.block U hUl).trans hs.1,(h.block V hVl).trans hs.2.1,(h.block X hXl).trans hs.2.2.1,(h.block kb hkb9).trans hs.2.2.2⟩
      have HSU:Hid (∀(W':Ag) (U2:Nat) (v0 v1 v2 v3 v4 v5 v6:Ah),W7.heap.size≤U2→S W'→S (put7 W' U2 v0 v1 v2 v3 v4 v5 v6)):=Ae fun W' U2 v0 v1 v2 v3 v4 v5 v6 hU hs=>by
       subst hSd;exact⟨(Dz (by omega) v0 v1 v2 v3 v4 v5 v6).trans hs.1,(Dz (by omega) v0 v1 v2 v3 v4 v5 v6).trans hs.2.1,(Dz (by omega) v0 v1 v2 v3 v4 v5 v6).trans hs.2.2.1,(Dz (by omega) v0 v1 v2 v3 v4 v5 v6).trans hs.2.2.2⟩
      have hS0:S W7.drew:=by subst hSd;exact⟨rfl,rfl,rfl,rfl⟩
      have H8:=H9.upto 5;have ho9:=Ck HOk.out (Aj _) HB9.out;have hg9:=HG.out.below HB9.out;clear hSd p0 p1 p2 a0 a1 a2 a3 a4 a5 a6 m3 b0 b1 b2 b3 hUl hVl hXl H9;go_cut [13,14]from 60 to 71 (fun s13 s14 wx=>∃U2:Nat,s13= .pointer (some ⟨U2,0,none⟩)∧s14= Aa Ab f1∧Hid (LrU w [(N,CF,24),(P,CK,27),(U,#[Aa Ab sk.a,Aa Ab sk.b,Ad pA1 sk.cr.length pc1,Aa Ac sk.root.t,Aa Ab sk.root.x,Aa Ab sk.root.y,Ad A1 sk.l.length cc1],37),(V,#[Aa Ab m.a,Aa Ab m.b,Aa Ab m.c,Ad (some ⟨kb,ko,none⟩) mn cB],41),(G,gl.toArray,37)] o1 ss er [U,V] gl (Ad (some ⟨kb,ko,none⟩) mn cB) mn (m.st.flatMap snC) U2 wx))
      case first=>
       refine Al (S:=S) (by kernel_rfl) hS0 (fun hS=>?_);have hb:Below W7.heap.size W7 W7.drew:=(Below.refl _ _).drew;have H:=H8.drew;have ho:=Ck ho9 (Aj _) hb;have hg:=hg9.below hb;obtain⟨X0,hX0⟩:=ez W7.drew;rw[←hX0]at hb hS H ho hg⊢;clear hX0;clear hS0 H8 ho9 hg9;refine Cf 0 ?_;refine Cf 1 ?_;refine Cf 2 ?_;refine Cf 3 ?_;refine Cf 4 ?_;refine Cf 5 ?_;refine Cf 6 ?_;refine rdy2 7 12 (fun K hK=>?_) (fun K hK=>?_)
       ·go_simp;refine(HLF.out _).mono ?_;rintro ee X1 ⟨rfl,hbm⟩;have ho:=Ck ho (Aj _) hbm;have hg:=hg.below hbm;obtain⟨H,hS1,hb⟩:=cl3 H hb hS HSB.out hbm;refine hK.out _ _ hS1 (fun hS=>?_);clear hK K hbm hS1;refine rdy2 8 12 (fun K hK=>?_) (fun K hK=>?_)
        ·go_simp;refine(HDD.out _ (HB9.out.trans (hb.mono HB9.out.size))).mono ?_;intro ee X2 hr;obtain⟨hbm,da,db,dAv,dn,dc,dt,dx,dy,dBv,dm,dd,rfl,hdk⟩:=do7 hr;have hdo:=fun t ht=>LwS.of (us:=[U,V]) (hdk t ht) (by intro v hv;have h1:=H.lt 2 rfl;have h2:=H.lt 3 rfl;skip;simp at hv;omega);have ho:=Ck ho (Aj _) hbm;have hg:=hg.below hbm;obtain⟨H,hS1,hb⟩:=cl3 H hb hS HSB.out hbm;refine hK.out _ _ hS1 (fun hS=>?_);clear hK K hbm hS1 hdk hr;refine Cf 9 ?_;refine Cf 10 ?_;refine Cf 11 ?_;refine rdy 12 (fun K hK=>?_);obtain⟨U2,hA,hUW,H,hal,hS1,hb⟩:=al3 H hb hS HSB.out zST 37;have hdo:=fun t ht=>((hdo t ht).more (Nat.le_of_eq hA)).below hal;have ho:=Ck ho (Aj _) hal;have hg:=(hg.more (Nat.le_of_eq hA)).below hal;go_simp;refine hK.out _ _ hS1 (fun hS=>?_);clear hK K hS1 hal
         try rw[hA]
         obtain⟨X3,hX3⟩:=ez (X2.alloc (.cells zST 37));rw[←hX3]at H hb hS ho hg hdo⊢;clear hX3;clear hA;obtain⟨z0,z1,z2,z3,z4,z5,z6⟩:=De (H.blk 5 _ _ _ rfl);obtain⟨y0,y1,y2,y3,y4,y5,y6⟩:=Jm (H.blk 5 _ _ _ rfl);have hSU:=Ae (HSU.out _ U2 (Aa Ab da) (Aa Ab db) (Ad dAv dn dc) (Aa Ac dt) (Aa Ab dx) (Aa Ab dy) (Ad dBv dm dd) hUW hS);have HREL:=Ae (show LrU w _ o1 ss er [U,V] gl _ mn (m.st.flatMap snC) U2 _ from⟨da,db,dAv,dn,dc,dt,dx,dy,dBv,dm,dd,put7l H (Aa Ab da) (Aa Ab db) (Ad dAv dn dc) (Aa Ac dt) (Aa Ab dx) (Aa Ab dy) (Ad dBv dm dd),fun t ht=>((hdo t ht).put (u:=U2) (by simp) ..).sub (by simp),Lt ho (H.blk 5 _ _ _ rfl) (by decide) ..,(hg.put (u:=U2) (by simp) ..).sub (by simp)⟩);clear H ho hg hdo;refine rdy 13 (fun K hK=>?_);go_simp;refine hK.out _ _ hSU.out (fun hS=>?_);clear hK K z0 z1 z2 z3 z4 z5 z6 y0 y1 y2 y3 y4 y5 y6 hSU;refine Cf 14 ?_;refine Ak (by kernel_rfl) ?_ _;go_wp2_with fail;go_meet;exact⟨U2,rfl,rfl,HREL⟩
        ·obtain⟨U2,hA,hUW,H,hal,hS1,hb⟩:=al3 H hb hS HSB.out zST 37
         skip
         have ho:=Ck ho (Aj _) hal;have hg:=(hg.more (Nat.le_of_eq hA)).below hal;go_simp;refine hK.out _ _ hS1 (fun hS=>?_);clear hK K hS1 hal
         try rw[hA]
         obtain⟨X2,hX2⟩:=ez (X1.alloc (.cells zST 37));rw[←hX2]at H hb hS ho hg⊢;clear hX2;clear hA;refine rdy 8 (fun K hK=>?_);go_simp;refine(HDD.out _ (HB9.out.trans (hb.mono HB9.out.size))).mono ?_;intro ee X3 hr;obtain⟨hbm,da,db,dAv,dn,dc,dt,dx,dy,dBv,dm,dd,rfl,hdk⟩:=do7 hr;have hdo:=fun t ht=>LwS.of (us:=[U2,U,V]) (hdk t ht) (by intro v hv;have h1:=H.lt 2 rfl;have h2:=H.lt 3 rfl;have h3:=H.lt 5 rfl;simp at hv;omega);have ho:=Ck ho (Aj _) hbm;have hg:=hg.below hbm;obtain⟨H,hS1,hb⟩:=cl3 H hb hS HSB.out hbm;refine hK.out _ _ hS1 (fun hS=>?_);clear hK K hbm hS1 hdk hr;refine Cf 9 ?_;refine Cf 10 ?_;refine Cf 11 ?_;obtain⟨z0,z1,z2,z3,z4,z5,z6⟩:=De (H.blk 5 _ _ _ rfl);obtain⟨y0,y1,y2,y3,y4,y5,y6⟩:=Jm (H.blk 5 _ _ _ rfl);have hSU:=Ae (HSU.out _ U2 (Aa Ab da) (Aa Ab db) (Ad dAv dn dc) (Aa Ac dt) (Aa Ab dx) (Aa Ab dy) (Ad dBv dm dd) hUW hS);have HREL:=Ae (show LrU w _ o1 ss er [U,V] gl _ mn (m.st.flatMap snC) U2 _ from⟨da,db,dAv,dn,dc,dt,dx,dy,dBv,dm,dd,put7l H (Aa Ab da) (Aa Ab db) (Ad dAv dn dc) (Aa Ac dt) (Aa Ab dx) (Aa Ab dy) (Ad dBv dm dd),fun t ht=>((hdo t ht).put (u:=U2) (by simp) ..).sub (by simp),Lt ho (H.blk 5 _ _ _ rfl) (by decide) ..,(hg.put (u:=U2) (by simp) ..).sub (by simp)⟩);clear H ho hg hdo;refine rdy 13 (fun K hK=>?_);go_simp;refine hK.out _ _ hSU.out (fun hS=>?_);clear hK K z0 z1 z2 z3 z4 z5 z6 y0 y1 y2 y3 y4 y5 y6 hSU;refine Cf 14 ?_;refine Ak (by kernel_rfl) ?_ _;go_wp2_with fail;go_meet;exact⟨U2,rfl,rfl,HREL⟩
       ·obtain⟨U2,hA,hUW,H,hal,hS1,hb⟩:=al3 H hb hS HSB.out zST 37
        skip
        have ho:=Ck ho (Aj _) hal;have hg:=(hg.more (Nat.le_of_eq hA)).below hal;go_simp;refine hK.out _ _ hS1 (fun hS=>?_);clear hK K hS1 hal
        try rw[hA]
        obtain⟨X1,hX1⟩:=ez (X0.alloc (.cells zST 37));rw[←hX1]at H hb hS ho hg⊢;clear hX1;clear hA;refine rdy 7 (fun K hK=>?_);go_simp;refine(HLF.out _).mono ?_;rintro ee X2 ⟨rfl,hbm⟩;have ho:=Ck ho (Aj _) hbm;have hg:=hg.below hbm;obtain⟨H,hS1,hb⟩:=cl3 H hb hS HSB.out hbm;refine hK.out _ _ hS1 (fun hS=>?_);clear hK K hbm hS1;refine rdy 8 (fun K hK=>?_);go_simp;refine(HDD.out _ (HB9.out.trans (hb.mono HB9.out.size))).mono ?_;intro ee X3 hr;obtain⟨hbm,da,db,dAv,dn,dc,dt,dx,dy,dBv,dm,dd,rfl,hdk⟩:=do7 hr;have hdo:=fun t ht=>LwS.of (us:=[U2,U,V]) (hdk t ht) (by intro v hv;have h1:=H.lt 2 rfl;have h2:=H.lt 3 rfl;have h3:=H.lt 5 rfl;simp at hv;omega);have ho:=Ck ho (Aj _) hbm;have hg:=hg.below hbm;obtain⟨H,hS1,hb⟩:=cl3 H hb hS HSB.out hbm;refine hK.out _ _ hS1 (fun hS=>?_);clear hK K hbm hS1 hdk hr;refine Cf 9 ?_;refine Cf 10 ?_;refine Cf 11 ?_;obtain⟨z0,z1,z2,z3,z4,z5,z6⟩:=De (H.blk 5 _ _ _ rfl);obtain⟨y0,y1,y2,y3,y4,y5,y6⟩:=Jm (H.blk 5 _ _ _ rfl);have hSU:=Ae (HSU.out _ U2 (Aa Ab da) (Aa Ab db) (Ad dAv dn dc) (Aa Ac dt) (Aa Ab dx) (Aa Ab dy) (Ad dBv dm dd) hUW hS);have HREL:=Ae (show LrU w _ o1 ss er [U,V] gl _ mn (m.st.flatMap snC) U2 _ from⟨da,db,dAv,dn,dc,dt,dx,dy,dBv,dm,dd,put7l H (Aa Ab da) (Aa Ab db) (Ad dAv dn dc) (Aa Ac dt) (Aa Ab dx) (Aa Ab dy) (Ad dBv dm dd),fun t ht=>((hdo t ht).put (u:=U2) (by simp) ..).sub (by simp),Lt ho (H.blk 5 _ _ _ rfl) (by decide) ..,(hg.put (u:=U2) (by simp) ..).sub (by simp)⟩);clear H ho hg hdo;refine rdy 13 (fun K hK=>?_);go_simp;refine hK.out _ _ hSU.out (fun hS=>?_);clear hK K z0 z1 z2 z3 z4 z5 z6 y0 y1 y2 y3 y4 y5 y6 hSU;refine Cf 14 ?_;refine Ak (by kernel_rfl) ?_ _;go_wp2_with fail;go_meet;exact⟨U2,rfl,rfl,HREL⟩
      case rest=>
      obtain⟨U2,rfl,rfl,HU⟩:=hcut;clear hS0 H8 ho9 hg9 HSO HSB HSU;obtain⟨da,db,dAv,dn,dc,dt,dx,dy,dBv,dm,dd,H9,hdo,ho9,hg9⟩:=HU.out;rcases HCD.out with⟨bn,hbn,hgb,hfo⟩|⟨hle,her,hfo⟩
      ·obtain⟨rfl,rfl⟩:=Prod.mk.inj hfo;have HSn:=hdo bn rfl;obtain⟨pA2,pc2,A2,cc2,hdl,-,-,-⟩:=HSn.st.held;obtain⟨a0,a1,a2,a3,a4,a5,a6⟩:=De (H9.blk 5 _ _ _ rfl);obtain⟨z0,z1,z2,z3,z4,z5,z6⟩:=De (H9.blk 2 _ _ _ rfl);obtain⟨y0,y1,y2,y3,y4,y5,y6⟩:=Jm (H9.blk 2 _ _ _ rfl);have hne:U≠U2:=H9.ne 2 5 (by decide) rfl rfl;have H10:=(H9.put7 2 rfl (Aa Ab da) (Aa Ab db) (Ad dAv dn dc) (Aa Ac dt) (Aa Ab dx) (Aa Ab dy) (Ad dBv dm dd)).upto 5;have HSm:=HSn.put (u:=U) (by simp) (Aa Ab da) (Aa Ab db) (Ad dAv dn dc) (Aa Ac dt) (Aa Ab dx) (Aa Ab dy) (Ad dBv dm dd);have ho10:=Lt ho9 (H9.blk 2 _ _ _ rfl) (by decide) (Aa Ab da) (Aa Ab db) (Ad dAv dn dc) (Aa Ac dt) (Aa Ab dx) (Aa Ab dy) (Ad dBv dm dd);have hg10:=hg9.put (u:=U) (by simp) (Aa Ab da) (Aa Ab db) (Ad dAv dn dc) (Aa Ac dt) (Aa Ab dx) (Aa Ab dy) (Ad dBv dm dd);have hkn:k+1<ss.length:=(As.1 hbn).1
       have HR:Hid (LrI w (N,CF,24) (P,CK,27) m ss er U V G (some ⟨kb,ko,none⟩) cB mn gl (k+1) (put7 wc U (Aa Ab da) (Aa Ab db) (Ad dAv dn dc) (Aa Ac dt) (Aa Ab dx) (Aa Ab dy) (Ad dBv dm dd))):=by
        refine Ae ⟨bn,pA2,pc2,A2,cc2,hbn,hgb,?_,?_,ho10,hg10⟩
        ·rw[←hdl];exact HSm
        ·rw[←hdl];exact H10
       clear H9 H10 HSn HSm ho9 ho10 hg9 hg10 HU hdo hdl hbn hgb hfo HCD;go_wp2_with fail
       go_roundw
       case rel=>exact⟨k+1,hkn,by go_num,rfl,HR⟩
       case measure=>simp[intOf];omega
      ·obtain⟨rfl,rfl⟩:=Prod.mk.inj hfo;have q8:(f1 != 0)=true:=by simpa using her
       have HE:=Ae (show LrE w (N,CF,24) (P,CK,27) m ss f1 U V G (some ⟨kb,ko,none⟩) cB mn gl wc from⟨_,H9.upto 5,hg9,fun h=>absurd h her⟩);have HLE:=Ae hle;clear H9 ho9 hg9 HU hdo her hle hfo HCD;go_wp2_with fail;go_meet;exact⟨k,rfl,rfl,HLE.out.symm,HE⟩
 case rest=>
 obtain⟨k,rfl,rfl,hk1,HE⟩:=hcut;obtain⟨W5,rfl⟩:=ez wc;obtain rfl:k=nn:=by have:=HNN.out;omega
 clear HI0 hk1;by_cases h0:er=0
 ·subst h0;obtain⟨CU,H5,hg5,hs5⟩:=HE.out;obtain⟨sk,pA1,pc1,A1,cc1,rfl,hlast,hgk,hS,ho⟩:=hs5 rfl;obtain⟨t,hl2,hgt,hT⟩:=hg5.2 rfl;rw[hlast]at hl2;obtain rfl:=Option.some.inj hl2;obtain⟨pT,qT,D,cD,rfl,-,-,-⟩:=hT.st.held;obtain rfl:=HCF.out;have hpS:=Do hS.st;have hpT:=Do hT.st;have hq:=HQT.out _ H5.below;have HSM:=Ae (same_any sk hgk pT pA1 qT pc1 D A1 cD cc1 W5 hpT.2.1 hpS.2.1 hpT.2.2 hpS.2.2);have HCK:=Ae (fun(w':Ag) (h:Below W5.heap.size W5 w')=>Sy sk pT qT D cD w' hgk (hpT.2.1.below h) (hpT.2.2.below h) (hq.1.below h) (hq.2.below h));have HS2:=Ae (fun(w':Ag) (pEv:Option Addr) (qEv:Nat) (E:Option Addr) (cEv:Nat) (h1:Rd w' pEv 3 sk.cr.length (crs sk.cr)) (h2:Cs w' E sk.l) (h3:Rd w' pT 3 sk.cr.length (crs sk.cr)) (h4:Cs w' D sk.l)=>same_any sk hgk pEv pT qEv qT E D cEv cD w' h1 h3 h2 h4)
  have HR2:Hid (∀(w':Ag) (hb:Below w.heap.size w w') (pEv:Option Addr) (qEv:Nat) (E:Option Addr) (cEv:Nat) (ho:w'.ownsRow w.heap.size 56 3 (Ad B mn cB) mn (m.st.flatMap snC)) (hs:Mq w' [Aa Ab s.a,Aa Ab s.b,Ad pEv s.cr.length qEv,Aa Ac s.root.t,Aa Ab s.root.x,Aa Ab s.root.y,Ad E s.l.length cEv] s),
    Ai Tryz.prog 8 #[.agg #[Aa Ab 1024,Aa Ab 256,Aa Ab m.c,Ad B mn cB],.agg #[Aa Ab s.a,Aa Ab s.b,Ad pEv s.cr.length qEv,Aa Ac s.root.t,Aa Ab s.root.x,Aa Ab s.root.y,Ad E s.l.length cEv]] w' (Xi (ss,0) s [Aa Ab s.a,Aa Ab s.b,Ad pEv s.cr.length qEv,Aa Ac s.root.t,Aa Ab s.root.x,Aa Ab s.root.y,Ad E s.l.length cEv] w')):=Ae (by
   intro w' hb pEv qEv E cEv ho hs;have hp:=Do hs;have hq:=HQT.out _ hb;have h:=Qx (Mh.mk 1024 256 m.c m.st) s HM2.out B mn cB HMN.out.symm pEv qEv E cEv w' (Rd.of_own ho) HGS.out hp.1 hp.2.1 hp.2.2 hq.1 hq.2;dsimp only at h;rw[HWD.out rfl]at h;exact h)
  have HO5:=Ae ho;have HLA:=Ae hlast;have HT5:=Ae hT;clear hg5 hs5 hl2 hlast hgt hS ho hT hpS hpT hq HE hgk HCF;obtain⟨a0,a1,a2,a3,a4,a5,a6⟩:=De (H5.blk 2 _ _ _ rfl);obtain⟨z0,z1,z2,z3,z4,z5,z6⟩:=De (H5.blk 4 _ _ _ rfl);go_wp2_with fail;refine HSM.out.mono ?_;rintro ee w6 ⟨rfl,hb⟩;have H6:=H5.call hb;clear a0 a1 a2 a3 a4 a5 a6 z0 z1 z2 z3 z4 z5 z6 H5 HSM;obtain⟨z0,z1,z2,z3,z4,z5,z6⟩:=De (H6.blk 4 _ _ _ rfl);go_wp2_with fail;refine(HCK.out _ hb).mono ?_;rintro ee w7 ⟨rfl,hb2⟩;have H7:=H6.call hb2;have hb7:=hb.trans (hb2.mono hb.size);have ho7:=Ck HO5.out (Aj _) hb7;clear z0 z1 z2 z3 z4 z5 z6 H6 HCK hb hb2;obtain⟨⟨m0,m1,m2,m3⟩,y0,y1,y2,y3⟩:=Co (H7.blk 3 _ _ _ rfl);have H8:=H7.set 3 0 rfl (Aa Ab 1024);have H9:=H8.set 3 1 rfl (Aa Ab 256);have ho9:=Qu (Qu ho7 (H7.blk 3 _ _ _ rfl) (by decide) 0 (Aa Ab 1024)) (H8.blk 3 _ _ _ rfl) (by decide) 1 (Aa Ab 256);have hT9:=((HT5.out.below hb7).set (u:=V) (by simp) 0 (Aa Ab 1024)).set (u:=V) (by simp) 1 (Aa Ab 256);clear H7 H8 ho7 hb7;go_upto_region 24 with fail;clear m0 m1 m2 m3 y0 y1 y2 y3;obtain⟨W8,hW8⟩:=ez ((w7.setCell ⟨V,0,none⟩ (Aa Ab 1024)).setCell ⟨V,1,none⟩ (Aa Ab 256));rw[←hW8]at H9 ho9 hT9⊢;clear hW8;have H9:Bx w [(N,#[Aa Ac x,Aa Ac y,Ad pF n c],24),(P,CK,27),(U,#[Aa Ab sk.a,Aa Ab sk.b,Ad pA1 sk.cr.length pc1,Aa Ac sk.root.t,Aa Ab sk.root.x,Aa Ab sk.root.y,Ad A1 sk.l.length cc1],37),(V,#[Aa Ab 1024,Aa Ab 256,Aa Ab m.c,Ad B mn cB],41),(G,#[Aa Ab sk.a,Aa Ab sk.b,Ad pT sk.cr.length qT,Aa Ac sk.root.t,Aa Ab sk.root.x,Aa Ab sk.root.y,Ad D sk.l.length cD],37)] W8:=H9;obtain⟨⟨m0,m1,m2,m3⟩,-⟩:=Co (H9.blk 3 _ _ _ rfl);obtain⟨⟨a0,a1,a2⟩,-⟩:=Ci (H9.blk 0 _ _ _ rfl);have hNl:=H9.lt 0 rfl;have hVl:=H9.lt 3 rfl;obtain⟨S,hSd⟩:∃S:Ag→Prop,S=fun W'=>W'.heap[N]? =W8.heap[N]? ∧W'.heap[V]? =W8.heap[V]? :=⟨_,rfl⟩
  have HSO:Hid (∀W',S W'→(W'.cell? ⟨N,0,none⟩=some (Aa Ac x)∧W'.cell? ⟨N,1,none⟩=some (Aa Ac y)∧W'.cell? ⟨N,2,none⟩=some (Ad pF n c))∧W'.cell? ⟨V,0,none⟩=some (Aa Ab 1024)∧W'.cell? ⟨V,1,none⟩=some (Aa Ab 256)∧W'.cell? ⟨V,2,none⟩=some (Aa Ab m.c)∧W'.cell? ⟨V,3,none⟩=some (Ad B mn cB)):=Ae fun W' h=>by
   subst hSd;obtain⟨h1,h2⟩:=h;exact⟨⟨(Ch h1 _).trans a0,(Ch h1 _).trans a1,(Ch h1 _).trans a2⟩,(Ch h2 _).trans m0,(Ch h2 _).trans m1,(Ch h2 _).trans m2,(Ch h2 _).trans m3⟩
  have HSB:Hid (∀W' W'':Ag,S W'→Below W8.heap.size W' W''→S W''):=Ae fun W' W'' hs h=>by
   subst hSd;exact⟨(h.block N hNl).trans hs.1,(h.block V hVl).trans hs.2⟩
  have HSU:Hid (∀(W':Ag) (U2:Nat) (v0 v1 v2 v3 v4 v5 v6:Ah),W8.heap.size≤U2→S W'→S (put7 W' U2 v0 v1 v2 v3 v4 v5 v6)):=Ae fun W' U2 v0 v1 v2 v3 v4 v5 v6 hU hs=>by
   subst hSd;exact⟨(Dz (by omega) v0 v1 v2 v3 v4 v5 v6).trans hs.1,(Dz (by omega) v0 v1 v2 v3 v4 v5 v6).trans hs.2⟩
  have hS0:S W8.drew:=by subst hSd;exact⟨rfl,rfl⟩
  clear hSd a0 a1 a2 m0 m1 m2 m3 hNl hVl;go_cut [15,16,17]from 106 to 113 (fun s15 _ s17 wx=>∃Y:Nat,s15= .pointer (some ⟨Y,0,none⟩)∧s17= Aa Ab 0∧Hid (LrZ w [(N,#[Aa Ac x,Aa Ac y,Ad pF n c],24),(P,CK,27),(U,#[Aa Ab sk.a,Aa Ab sk.b,Ad pA1 sk.cr.length pc1,Aa Ac sk.root.t,Aa Ab sk.root.x,Aa Ab sk.root.y,Ad A1 sk.l.length cc1],37),(V,#[Aa Ab 1024,Aa Ab 256,Aa Ab m.c,Ad B mn cB],41),(G,#[Aa Ab sk.a,Aa Ab sk.b,Ad pT sk.cr.length qT,Aa Ac sk.root.t,Aa Ab sk.root.x,Aa Ab sk.root.y,Ad D sk.l.length cD],37)] ss Y [Aa Ab sk.a,Aa Ab sk.b,Ad pT sk.cr.length qT,Aa Ac sk.root.t,Aa Ab sk.root.x,Aa Ab sk.root.y,Ad D sk.l.length cD] sk wx))
  case first=>
   refine Al (S:=S) (by kernel_rfl) hS0 (fun hS=>?_);have hb:Below W8.heap.size W8 W8.drew:=(Below.refl _ _).drew;have H:=H9.drew;have ho:=Ck ho9 (Aj _) hb;have HT:=hT9.below hb;obtain⟨X0,hX0⟩:=ez W8.drew;rw[←hX0]at hb hS H ho HT⊢;clear hX0;clear hS0 H9 ho9 hT9;refine Cf 0 ?_;refine Cf 1 ?_;refine rdy2 2 8 (fun K hK=>?_) (fun K hK=>?_)
   ·go_simp;refine(HOF.out _ H.below).mono ?_;rintro ee X1 ⟨cs,rfl,hkp,hbm⟩;obtain⟨pEv,qEv,E,cEv,rfl,-,-,-⟩:=hkp.st.held;have HS:=LwS.of (us:=[]) hkp (by simp);have ho:=Ck ho (Aj _) hbm;have HT:=HT.below hbm;obtain⟨H,hS1,hb⟩:=cl3 H hb hS HSB.out hbm;refine hK.out _ _ hS1 (fun hS=>?_);clear hK K hbm hkp hS1;refine rdy2 3 8 (fun K hK=>?_) (fun K hK=>?_)
    ·go_simp;refine(HR2.out _ H.below pEv qEv E cEv ho HS.st).mono ?_;intro ee X2 hr;obtain⟨hbm,da,db,dAv,dn,dc,dt,dx,dy,dBv,dm,dd,rfl,hg⟩:=run7 (us:=[]) rfl HS (by simp) hr;have HT:=HT.below hbm;obtain⟨H,hS1,hb⟩:=cl3 H hb hS HSB.out hbm;refine hK.out _ _ hS1 (fun hS=>?_);clear hK K hbm hS1 hr ho HS;refine Cf 4 ?_;refine Cf 5 ?_;refine Cf 6 ?_;refine Cf 7 ?_;refine rdy 8 (fun K hK=>?_);obtain⟨Y,hA,hUW,H,hal,hS1,hb⟩:=al3 H hb hS HSB.out zST 37;have hg:=(hg.more (Nat.le_of_eq hA)).below hal;have HT:=(HT.more (Nat.le_of_eq hA)).below hal;go_simp;refine hK.out _ _ hS1 (fun hS=>?_);clear hK K hS1 hal
     try rw[hA]
     obtain⟨X3,hX3⟩:=ez (X2.alloc (.cells zST 37));rw[←hX3]at H hb hS HT hg⊢;clear hX3;clear hA;obtain⟨z0,z1,z2,z3,z4,z5,z6⟩:=De (H.blk 5 _ _ _ rfl);obtain⟨y0,y1,y2,y3,y4,y5,y6⟩:=Jm (H.blk 5 _ _ _ rfl);have hSU:=Ae (HSU.out _ Y (Aa Ab da) (Aa Ab db) (Ad dAv dn dc) (Aa Ac dt) (Aa Ab dx) (Aa Ab dy) (Ad dBv dm dd) hUW hS);have HREL:=Ae (show LrZ w _ ss Y _ sk _ from⟨da,db,dAv,dn,dc,dt,dx,dy,dBv,dm,dd,put7l H (Aa Ab da) (Aa Ab db) (Ad dAv dn dc) (Aa Ac dt) (Aa Ab dx) (Aa Ab dy) (Ad dBv dm dd),hg.put (u:=Y) (by simp) ..,(HT.put (u:=Y) (by simp) ..).sub (by simp)⟩);clear H hg HT;refine rdy 9 (fun K hK=>?_);go_simp;refine hK.out _ _ hSU.out (fun hS=>?_);clear hK K z0 z1 z2 z3 z4 z5 z6 y0 y1 y2 y3 y4 y5 y6 hSU;refine Cf 10 ?_;refine Cf 11 ?_;refine Ak (by kernel_rfl) ?_ _;go_wp2_with fail;go_meet;exact⟨Y,rfl,rfl,HREL⟩
    ·obtain⟨Y,hA,hUW,H,hal,hS1,hb⟩:=al3 H hb hS HSB.out zST 37;have ho:=Ck ho (Aj _) hal;have HS:=(HS.more (Nat.le_of_eq hA)).below hal;have HT:=(HT.more (Nat.le_of_eq hA)).below hal;go_simp;refine hK.out _ _ hS1 (fun hS=>?_);clear hK K hS1 hal
     try rw[hA]
     obtain⟨X2,hX2⟩:=ez (X1.alloc (.cells zST 37));rw[←hX2]at H hb hS HT ho HS⊢;clear hX2;clear hA;refine rdy 3 (fun K hK=>?_);go_simp;refine(HR2.out _ H.below pEv qEv E cEv ho HS.st).mono ?_;intro ee X3 hr;obtain⟨hbm,da,db,dAv,dn,dc,dt,dx,dy,dBv,dm,dd,rfl,hg⟩:=run7 (us:=[Y]) rfl HS (by intro u hu;have h1:=H.lt 5 rfl;simp at hu;omega) hr;have HT:=HT.below hbm;obtain⟨H,hS1,hb⟩:=cl3 H hb hS HSB.out hbm;refine hK.out _ _ hS1 (fun hS=>?_);clear hK K hbm hS1 hr ho HS;refine Cf 4 ?_;refine Cf 5 ?_;refine Cf 6 ?_;refine Cf 7 ?_;obtain⟨z0,z1,z2,z3,z4,z5,z6⟩:=De (H.blk 5 _ _ _ rfl);obtain⟨y0,y1,y2,y3,y4,y5,y6⟩:=Jm (H.blk 5 _ _ _ rfl);have hSU:=Ae (HSU.out _ Y (Aa Ab da) (Aa Ab db) (Ad dAv dn dc) (Aa Ac dt) (Aa Ab dx) (Aa Ab dy) (Ad dBv dm dd) hUW hS);have HREL:=Ae (show LrZ w _ ss Y _ sk _ from⟨da,db,dAv,dn,dc,dt,dx,dy,dBv,dm,dd,put7l H (Aa Ab da) (Aa Ab db) (Ad dAv dn dc) (Aa Ac dt) (Aa Ab dx) (Aa Ab dy) (Ad dBv dm dd),hg.put (u:=Y) (by simp) ..,(HT.put (u:=Y) (by simp) ..).sub (by simp)⟩);clear H hg HT;refine rdy 9 (fun K hK=>?_);go_simp;refine hK.out _ _ hSU.out (fun hS=>?_);clear hK K z0 z1 z2 z3 z4 z5 z6 y0 y1 y2 y3 y4 y5 y6 hSU;refine Cf 10 ?_;refine Cf 11 ?_;refine Ak (by kernel_rfl) ?_ _;go_wp2_with fail;go_meet;exact⟨Y,rfl,rfl,HREL⟩
   ·obtain⟨Y,hA,hUW,H,hal,hS1,hb⟩:=al3 H hb hS HSB.out zST 37;have ho:=Ck ho (Aj _) hal;have HT:=(HT.more (Nat.le_of_eq hA)).below hal;go_simp;refine hK.out _ _ hS1 (fun hS=>?_);clear hK K hS1 hal
    try rw[hA]
    obtain⟨X1,hX1⟩:=ez (X0.alloc (.cells zST 37));rw[←hX1]at H hb hS HT ho⊢;clear hX1;clear hA;refine rdy 2 (fun K hK=>?_);go_simp;refine(HOF.out _ H.below).mono ?_;rintro ee X2 ⟨cs,rfl,hkp,hbm⟩;obtain⟨pEv,qEv,E,cEv,rfl,-,-,-⟩:=hkp.st.held;have HS:=LwS.of (us:=[Y]) hkp (by intro u hu;have h1:=H.lt 5 rfl;simp at hu;omega);have ho:=Ck ho (Aj _) hbm;have HT:=HT.below hbm;obtain⟨H,hS1,hb⟩:=cl3 H hb hS HSB.out hbm;refine hK.out _ _ hS1 (fun hS=>?_);clear hK K hbm hkp hS1;refine rdy 3 (fun K hK=>?_);go_simp;refine(HR2.out _ H.below pEv qEv E cEv ho HS.st).mono ?_;intro ee X3 hr;obtain⟨hbm,da,db,dAv,dn,dc,dt,dx,dy,dBv,dm,dd,rfl,hg⟩:=run7 (us:=[Y]) rfl HS (by intro u hu;have h1:=H.lt 5 rfl;simp at hu;omega) hr;have HT:=HT.below hbm;obtain⟨H,hS1,hb⟩:=cl3 H hb hS HSB.out hbm;refine hK.out _ _ hS1 (fun hS=>?_);clear hK K hbm hS1 hr ho HS;refine Cf 4 ?_;refine Cf 5 ?_;refine Cf 6 ?_;refine Cf 7 ?_;obtain⟨z0,z1,z2,z3,z4,z5,z6⟩:=De (H.blk 5 _ _ _ rfl);obtain⟨y0,y1,y2,y3,y4,y5,y6⟩:=Jm (H.blk 5 _ _ _ rfl);have hSU:=Ae (HSU.out _ Y (Aa Ab da) (Aa Ab db) (Ad dAv dn dc) (Aa Ac dt) (Aa Ab dx) (Aa Ab dy) (Ad dBv dm dd) hUW hS);have HREL:=Ae (show LrZ w _ ss Y _ sk _ from⟨da,db,dAv,dn,dc,dt,dx,dy,dBv,dm,dd,put7l H (Aa Ab da) (Aa Ab db) (Ad dAv dn dc) (Aa Ac dt) (Aa Ab dx) (Aa Ab dy) (Ad dBv dm dd),hg.put (u:=Y) (by simp) ..,(HT.put (u:=Y) (by simp) ..).sub (by simp)⟩);clear H hg HT;refine rdy 9 (fun K hK=>?_);go_simp;refine hK.out _ _ hSU.out (fun hS=>?_);clear hK K z0 z1 z2 z3 z4 z5 z6 y0 y1 y2 y3 y4 y5 y6 hSU;refine Cf 10 ?_;refine Cf 11 ?_;refine Ak (by kernel_rfl) ?_ _;go_wp2_with fail;go_meet;exact⟨Y,rfl,rfl,HREL⟩
  case rest=>
  obtain⟨Y,rfl,rfl,HU⟩:=hcut;obtain⟨W9,rfl⟩:=ez wc;clear hS0 H9 ho9 hT9 HSO HSB HSU;obtain⟨da,db,dAv,dn,dc,dt,dx,dy,dBv,dm,dd,H10,hg,HT⟩:=HU.out;obtain⟨t2,hl3,hg3,hT3⟩:=hg.2 rfl;rw[HLA.out]at hl3;obtain rfl:=Option.some.inj hl3;obtain⟨pEv,qEv,E,cEv,hde,-,-,-⟩:=hT3.st.held;simp only[List.cons.injEq,Value.int.injEq,Value.slice.injEq,and_true,true_and,eq_self]at hde;obtain⟨rfl,rfl,⟨rfl,rfl,rfl⟩,rfl,rfl,rfl,rfl,rfl,rfl⟩:=hde;have hp3:=Do hT3.st;have hpT:=Do HT.st;have HSM:=Ae (HS2.out W9 dAv dc dBv dd hp3.2.1 hp3.2.2 hpT.2.1 hpT.2.2);obtain⟨a0,a1,a2,a3,a4,a5,a6⟩:=De (H10.blk 5 _ _ _ rfl);obtain⟨z0,z1,z2,z3,z4,z5,z6⟩:=De (H10.blk 4 _ _ _ rfl);have HB10:=Ae H10.below;clear H10 hg HT hl3 hg3 hT3 hp3 hpT HU;go_wp2_with fail;refine HSM.out.mono ?_;rintro ee w11 ⟨rfl,hb⟩;have hb11:=HB10.out.trans (hb.mono HB10.out.size);clear hb a0 a1 a2 a3 a4 a5 a6 z0 z1 z2 z3 z4 z5 z6 HSM;go_wp2_with fail;refine(HLV.out _ hb11).mono ?_;rintro ee w12 ⟨rfl,hb⟩;have HF:=Ae (hb11.trans (hb.mono hb11.size));clear hb hb11;go_wp2_with fail;go_ret;exact⟨rfl,HF.out⟩
 ·have q8:(er != 0)=true:=by simpa using h0
  obtain⟨CU,H5,hg5,-⟩:=HE.out;obtain rfl:=hg5.1 h0;unfold stZ at H5;clear hg5 HE;obtain⟨z0,z1,z2,z3,z4,z5,z6⟩:=De (H5.blk 4 _ _ _ rfl);have HB5:=Ae H5.below;clear H5;go_wp2_with fail;refine(HLV.out _ HB5.out).mono ?_;rintro ee w7 ⟨rfl,hb⟩;have HF:=Ae (HB5.out.trans (hb.mono HB5.out.size));clear hb z0 z1 z2 z3 z4 z5 z6;go_wp2_with fail;go_ret;exact⟨rfl,HF.out⟩
end Go.Proofs.YtadnbldkegkjaaaGreatDoor
