/- What SignaturesErrors wants of a forme, step by step, is fmE. No function of the program is named; no condition. · signatures.Pages, Of and Read at a state that is not valid. · The law SignaturesErrors of crimplaw36: for every forme and every G it returns true. -/
import Derived.Test.YthpcfeifmdbhnaaGreatDoorQFrm
import Derived.Test.YthpcfeifmdbhnaaGreatDoorQSra
import Derived.Test.YthpcfeifmdbhnaaGreatDoorQLrp
open Go renaming Calls→Al,World→Aj,bodyPost_ret→Ai,cell_of_row→By
open Go.IntKind renaming i64→Ab,u8→Ac
open Go.Lib renaming hid→Ah
open Go.Value renaming int→Aa,slice→Ad
open List renaming getElem?_eq_getElem→Aw,length_append→Bh
open Option renaming none→Ae,some→Af
set_option maxHeartbeats 4000000
set_option maxRecDepth 100000
namespace Go.Proofs.YthpcfeifmdbhnaaGreatDoor
def wdB (fr:List (List Int)) (r:List Int):Prop:=r.length=0∨(0<fr.length∧r.length≠(fr.getD 0 []).length)
instance (fr:List (List Int)) (r:List Int):Decidable (wdB fr r):=by unfold wdB;infer_instance
def wdE (fr bk:List (List Int)) (k:Nat):Int:=if fr.length=0∨fr.length≠bk.length∨((fr++bk).take k).any (λr=>decide (wdB fr r))=true then 5 else 0
theorem Xb7 (fr bk:List (List Int)):wdE fr bk 0=if fr.length=0∨fr.length≠bk.length then 5 else 0:=by
 unfold wdE;simp
theorem Xb8 {fr bk:List (List Int)} {k:Nat} {r:List Int} (h:(fr++bk)[k]? =Af r):wdE fr bk (k+1)=if wdB fr r then 5 else wdE fr bk k:=by
 have e:(fr++bk).take (k+1)=(fr++bk).take k++[r]:=by
  rw[List.take_add_one,h];rfl
 unfold wdE;rw[e,List.any_append];by_cases h1:fr.length=0∨fr.length≠bk.length
 ·have h2:∀p:Prop,(fr.length=0∨fr.length≠bk.length∨p):=λp=>by
   rcases h1 with h|h
   ·exact .inl h
   ·exact .inr (.inl h)
  rw[if_pos (h2 _),if_pos (h2 _)]
  split<;>rfl
 ·by_cases h3:wdB fr r
  ·rw[if_pos h3,if_pos]
   right;right
   simp[h3]
  ·rw[if_neg h3];simp[h3]
theorem Xc9 {fr bk:List (List Int)} {k nf c0:Nat} {r:List Int} (h:(fr++bk)[k]? =Af r) (hn:fr.length=nf) (hc:(fr.getD 0 []).length=c0):wdE fr bk (k+1)=if r.length=0∨(0<nf∧r.length≠c0)then 5 else wdE fr bk k:=by
 subst hn hc;rw[Xb8 h];by_cases d:wdB fr r
 ·rw[if_pos d];exact(if_pos d).symm
 ·rw[if_neg d];exact(if_neg d).symm
theorem Xd0 (fr bk:List (List Int)) (k:Nat):wdE fr bk k=0∨wdE fr bk k=5:=by
 unfold wdE
 split
 ·exact .inr rfl
 ·exact .inl rfl
def agE (N:Nat) (l:List Int) (i:Nat):Int:=if(List.range i).all (Pe N l)=true then 0 else 1
theorem Xb9 {N:Nat} {l:List Int} {i:Nat} (h:agE N l i=0):agE N l (i+1)=if Pe N l i=true then 0 else 1:=by
 unfold agE at h⊢;rw[List.range_succ,List.all_append]
 split at h
 ·rename_i h1;rw[h1];simp
 ·cases h
def arE (N:Nat) (l:List Int) (i k:Nat):Int:=if l.getD i 0=0∨N<(l.getD i 0).natAbs∨((List.range k).any λj=>decide ((l.getD j 0).natAbs=(l.getD i 0).natAbs))=true then 1 else 0
theorem Xb1 {N:Nat} {l:List Int} {i k:Nat}:arE N l i (k+1)=if(l.getD k 0).natAbs=(l.getD i 0).natAbs then 1 else arE N l i k:=by
 unfold arE;rw[List.range_succ,List.any_append,List.any_cons,List.any_nil,Bool.or_false];by_cases h:(l.getD k 0).natAbs=(l.getD i 0).natAbs
 ·rw[if_pos h,if_pos]
  right;right
  rw[decide_eq_true h,Bool.or_true]
 ·rw[if_neg h,decide_eq_false h,Bool.or_false]
theorem Xa9 (N:Nat) (l:List Int) (i:Nat):arE N l i 0=if l.getD i 0=0∨N<(l.getD i 0).natAbs then 1 else 0:=by
 unfold arE;simp
theorem Xc0 (N:Nat) (l:List Int) (i:Nat):arE N l i i=if Pe N l i=true then 0 else 1:=by
 unfold arE Pe;by_cases h1:l.getD i 0=0
 ·rw[if_pos (.inl h1),decide_eq_false (λh=>h h1),Bool.false_and,Bool.false_and,if_neg Ct]
 by_cases h2:N<(l.getD i 0).natAbs
 ·rw[if_pos (.inr (.inl h2)),decide_eq_false (show¬(l.getD i 0).natAbs≤N by omega),Bool.and_false,Bool.false_and,if_neg Ct]
 cases h3:(List.range i).any λj=>decide ((l.getD j 0).natAbs=(l.getD i 0).natAbs)with
 |true=>
  rw[if_pos (.inr (.inr rfl)),if_neg];simp
 |false=>
  rw[if_neg,if_pos]
  ·simp only[Bool.and_eq_true,decide_eq_true_eq,Bool.not_false,and_true];exact⟨h1,Ci⟩
  ·intro h;rcases h with h|h|h
   ·exact h1 h
   ·exact h2 h
   ·cases h
theorem Xc8 {fr bk:List (List Int)} (h:wdE fr bk (fr++bk).length≠0):fmE fr bk=5:=by
 unfold wdE at h;rw[List.take_length]at h;unfold fmE;by_cases h0:fr.length=0∨fr.length≠bk.length∨(fr.getD 0 []).length=0
 ·rw[if_pos h0]
 rw[if_neg h0]
 split at h
 ·rename_i h1;rcases h1 with h1|h1|h1
  ·exact absurd (.inl h1) h0
  ·exact absurd (.inr (.inl h1)) h0
  ·rw[if_pos];rw[List.any_eq_true]at h1⊢;obtain⟨r,hr,hd⟩:=h1;refine⟨r,hr,?_⟩;have hd:=of_decide_eq_true hd;unfold wdB at hd;apply decide_eq_true;rcases hd with hd|hd
   ·intro he;exact h0 (.inr (.inr Ci))
   ·exact hd.2
 ·exact absurd rfl h
theorem Xd3 {fr bk:List (List Int)} (h:wdE fr bk (fr++bk).length=0):fmE fr bk=agE (fr++bk).flatten.length (fr++bk).flatten (fr++bk).flatten.length:=by
 unfold wdE at h;rw[List.take_length]at h
 split at h
 ·cases h
 ·rename_i h1;have h2:¬fr.length=0:=λe=>h1 (.inl e);have h3:∀r∈fr++bk,¬wdB fr r:=λr hr hd=>h1 (.inr (.inr (List.any_eq_true.2 ⟨r,hr,decide_eq_true hd⟩)));unfold wdB at h3;unfold fmE;rw[if_neg,if_neg]
  ·unfold mR agE
   split<;>rfl
  ·rw[List.any_eq_true];rintro⟨r,hr,hd⟩;exact h3 r hr (.inr ⟨Ci,of_decide_eq_true hd⟩)
  ·rintro(h|h|h)
   ·exact h2 h
   ·exact h1 (.inr (.inl h))
   ·obtain⟨x,t,rfl⟩:∃x t,fr=x::t:=by cases fr with
     |nil=>exact absurd rfl h2
     |cons x t=>exact⟨x,t,rfl⟩
    exact h3 x Cn (.inl h)
theorem Xc3 {N:Nat} {l:List Int} {i:Nat} (hi:i≤l.length) (h:agE N l i≠0):agE N l l.length=1:=by
 unfold agE at h⊢;rw[if_neg];intro hl;apply h;rw[if_pos];rw[List.all_eq_true]at hl⊢;intro j hj;exact hl j (List.mem_range.2 (by have:=List.mem_range.1 hj;omega))
theorem Xa6 {N:Nat} {l:List Int} {i k:Nat} (h:N<(l.getD i 0).natAbs):arE N l i k=1:=by
 unfold arE;rw[if_pos (.inr (.inl h))]
theorem Xc7 {N:Nat} {l:List Int} {i k:Nat} {z u v:Int} (hz:l.getD i 0=z) (hv:l.getD k 0=v) (hu:z.natAbs≤N→u= -z) (h:v=z∨v=u):arE N l i (k+1)=1:=by
 by_cases hf:N<(l.getD i 0).natAbs
 ·exact Xa6 hf
 ·rw[Xb1,if_pos];rw[hz]at hf;rw[hz,hv];have:=hu Ci;rcases h with h|h
  ·rw[h]
  ·rw[h,this,Int.natAbs_neg]
theorem Xd4 {N:Nat} {l:List Int} {i k:Nat} {z u v:Int} (hz:l.getD i 0=z) (hv:l.getD k 0=v) (hu:z.natAbs≤N→u= -z) (h1:¬v=z) (h2:¬v=u):arE N l i (k+1)=arE N l i k:=by
 by_cases hf:N<(l.getD i 0).natAbs
 ·rw[Xa6 hf,Xa6 hf]
 ·rw[Xb1,if_neg];rw[hz]at hf;rw[hz,hv];have:=hu Ci;intro e;omega
theorem Xc5 {N:Nat} {l:List Int} {i:Nat} {z:Int} (hz:l.getD i 0=z) (h:z=0∨z>(N:Int)∨z< -(N:Int)):arE N l i 0=1:=by
 rw[Xa9,if_pos];rw[hz];omega
theorem Xd2 {N:Nat} {l:List Int} {i:Nat} {z:Int} (hz:l.getD i 0=z) (h0:¬z=0) (h1:¬z>(N:Int)) (h2:¬z< -(N:Int)):arE N l i 0=0:=by
 rw[Xa9,if_neg];rw[hz];omega
def wnE (W:Int) (N:Nat) (l:List Int) (i:Nat):Int:=if W=0 then agE N l i else W
theorem Xb6 (W:Int) (N:Nat) (l:List Int):wnE W N l 0=W:=by
 unfold wnE agE
 split
 ·rename_i h;rw[h];rfl
 ·rfl
theorem Xb5 {W:Int} {N:Nat} {l:List Int} {i:Nat} (h:wnE W N l i=0):wnE W N l (i+1)=arE N l i i:=by
 unfold wnE at h⊢
 split at h
 ·rename_i h1;rw[if_pos h1,Xb9 h,Xc0]
 ·rename_i h1;exact absurd h h1
theorem Xc4 {fr bk:List (List Int)} {W:Int} {l:List Int} {N i:Nat} (hl:(fr++bk).flatten=l) (hN:l.length=N) (hW:wdE fr bk (fr++bk).length=W) (hi:i≤N) (h:¬wnE W N l i=0∨i=N):wnE W N l i=fmE fr bk:=by
 subst hl hN hW;unfold wnE at h⊢
 split
 ·rename_i h1;rw[if_pos h1]at h;rw[Xd3 h1];rcases h with h|h
  ·rw[Xc3 hi h];unfold agE at h⊢
   split at h
   ·exact absurd rfl h
   ·rename_i h2;rw[if_neg h2]
  ·rw[h]
 ·rename_i h1;rw[Xc8 h1];rcases Xd0 fr bk (fr++bk).length with h2|h2
  ·exact absurd h2 h1
  ·exact h2
end Go.Proofs.YthpcfeifmdbhnaaGreatDoor
namespace Go.Proofs.YthpcfeifmdbhnaaGreatDoor
open Go.RowKit
theorem Xa1 (a b:Int) (pA:Option Addr) (pn pc:Nat) (t x y:Int) (A:Option Addr) (n c:Nat) (E:Int) (hE:E≠0) (w:Aj)
  (hck:∀w':Aj,Below w.heap.size w w'→Al Tryz.prog 16 #[.agg #[Aa Ab a,Aa Ab b,Ad pA pn pc,Aa Ac t,Aa Ab x,Aa Ab y,Ad A n c]] w' (Co (Aa Ab E) w')):
  Al Tryz.prog 8 #[.agg #[Aa Ab a,Aa Ab b,Ad pA pn pc,Aa Ac t,Aa Ab x,Aa Ab y,Ad A n c]] w (Co (.tuple #[Ad Ae 0 0,Aa Ab E]) w):=by
 have HCK:=Ah hck;have q8:(E != 0)=true:=by simpa using hE
 have H:=(((Bx.start w).new #[Aa Ab a,Aa Ab b,Ad pA pn pc,Aa Ac t,Aa Ab x,Aa Ab y,Ad A n c] 33 rfl).new #[Ad Ae 0 0] 43 (N:=w.heap.size+1) Cn).new #[Aa Ab 0] 40 (N:=w.heap.size+1+1) Cn;clear hck hE;refine(callsIn_wide (n:=9)).1 (callsIn_of_wp_marks Tryz.func8 rfl trivial ?_ rfl);simp only[Tryz.ntmps8,List.size_toArray,List.length_cons,List.length_nil,Nat.reduceAdd,Nat.reduceSub,Array.replicate_succ,Array.replicate_zero,List.push_toArray,List.append_toArray,List.nil_append,List.cons_append];refine wpIn_wide.2 ?_;go_upto_region 1 with fail;obtain⟨N,hN⟩:=ez w.heap.size;rw[←hN]at H⊢;have HNN:=Ah hN;clear hN;obtain⟨W,hW⟩:=ez (((w.alloc (.cells #[Aa Ab a,Aa Ab b,Ad pA pn pc,Aa Ac t,Aa Ab x,Aa Ab y,Ad A n c] 33)).alloc (.cells #[Ad Ae 0 0] 43)).alloc (.cells #[Aa Ab 0] 40));rw[←hW]at H⊢;clear hW;obtain⟨P1,hP1⟩:=ey (N+1);rw[hP1]at H⊢;obtain⟨P2,hP2⟩:=ey (P1+1);rw[hP2]at H⊢;clear hP1 hP2;obtain⟨a0,a1,a2,a3,a4,a5,a6⟩:=Gb (H.blk 0 _ _ _ rfl);go_wp2_with fail;refine(HCK.out _ H.below).mono ?_;rintro ee w2 ⟨rfl,hb⟩;have H2:=H.call hb;clear a0 a1 a2 a3 a4 a5 a6 hb H HCK;have p10:w2.cell? ⟨P1,0,Ae⟩=Af (Ad Ae 0 0):=by rw[By _ _ 0 _ _ _ (H2.blk 1 _ _ _ rfl)];rfl
 have p20:w2.cell? ⟨P2,0,Ae⟩=Af (Aa Ab 0):=by rw[By _ _ 0 _ _ _ (H2.blk 2 _ _ _ rfl)];rfl
 have z10:w2.frozen? ⟨P1,0,Ae⟩=false:=by simp[World.frozen?,H2.blk 1 _ _ _ rfl]
 have z20:w2.frozen? ⟨P2,0,Ae⟩=false:=by simp[World.frozen?,H2.blk 2 _ _ _ rfl]
 have hP12:P1≠P2:=λe=>absurd (H2.inj 1 2 _ _ _ _ _ rfl (by rw[e];rfl)) Ct;have H9:=(H2.set 1 0 rfl (Ad Ae 0 0)).set 2 0 rfl (Aa Ab E)
 have r1:((w2.setCell ⟨P1,0,Ae⟩ (Ad Ae 0 0)).setCell ⟨P2,0,Ae⟩ (Aa Ab E)).cell? ⟨P1,0,Ae⟩=Af (Ad Ae 0 0):=by
  rw[By _ _ 0 _ _ _ (H9.blk 1 _ _ _ rfl)];rfl
 have r2:((w2.setCell ⟨P1,0,Ae⟩ (Ad Ae 0 0)).setCell ⟨P2,0,Ae⟩ (Aa Ab E)).cell? ⟨P2,0,Ae⟩=Af (Aa Ab E):=by
  rw[By _ _ 0 _ _ _ (H9.blk 2 _ _ _ rfl)];rfl
 have HB:=Ah H9.below;clear H2 H9;go_wp2;exact⟨.tuple #[Ad Ae 0 0,Aa Ab E],by simp[results,Tryz.results8,go_sem,r1,r2],rfl,HB.out⟩
theorem Xa8 (a b:Int) (pA:Option Addr) (pn pc:Nat) (t x y:Int) (A:Option Addr) (n c:Nat) (E:Int) (hE:E≠0) (w:Aj)
  (hck:∀w':Aj,Below w.heap.size w w'→Al Tryz.prog 16 #[.agg #[Aa Ab a,Aa Ab b,Ad pA pn pc,Aa Ac t,Aa Ab x,Aa Ab y,Ad A n c]] w' (Co (Aa Ab E) w')):
  Al Tryz.prog 7 #[.agg #[Aa Ab a,Aa Ab b,Ad pA pn pc,Aa Ac t,Aa Ab x,Aa Ab y,Ad A n c]] w (Co (.tuple #[.agg #[Ad Ae 0 0,Ad Ae 0 0],Aa Ab E]) w):=by
 have HCK:=Ah hck;have HE:=Ah hE;have q8:(E != 0)=true:=by simpa using hE
 have H:=((Bx.start w).new #[Aa Ab a,Aa Ab b,Ad pA pn pc,Aa Ac t,Aa Ab x,Aa Ab y,Ad A n c] 33 rfl).new #[Ad Ae 0 0,Ad Ae 0 0] 39 (N:=w.heap.size+1) Cn;clear hck hE;go_enter Tryz.func7,Tryz.ntmps7;go_upto_region 1 with fail;obtain⟨N,hN⟩:=ez w.heap.size;rw[←hN]at H⊢;have HNN:=Ah hN;clear hN;obtain⟨P1,hP1⟩:=ey (N+1);rw[hP1]at H⊢;clear hP1;obtain⟨W1,hW1⟩:=ez ((w.alloc (.cells #[Aa Ab a,Aa Ab b,Ad pA pn pc,Aa Ac t,Aa Ab x,Aa Ab y,Ad A n c] 33)).alloc (.cells #[Ad Ae 0 0,Ad Ae 0 0] 39));rw[←hW1]at H⊢;clear hW1;obtain⟨a0,a1,a2,a3,a4,a5,a6⟩:=Gb (H.blk 0 _ _ _ rfl);go_wp2_with fail;refine(Xa1 a b pA pn pc t x y A n c E HE.out _ λw' hb=>HCK.out w' (H.below.trans (hb.mono H.below.size))).mono ?_;rintro ee w2 ⟨rfl,hb⟩;have H2:=H.call hb;clear a0 a1 a2 a3 a4 a5 a6 hb H HCK;obtain⟨⟨g0,g1⟩,z0,z1⟩:=Cy (H2.blk 1 _ _ _ rfl);have H9:=Ah ((H2.set 1 0 rfl (Ad Ae 0 0)).set 1 1 rfl (Ad Ae 0 0));clear H2;go_wp2_with fail;exact Ai (Cs (u:=3) rfl rfl (H9.out.range 1 rfl) Tryz.underlying39 rfl Cm) rfl ⟨rfl,H9.out.below⟩
theorem Xb0 (a b:Int) (pA:Option Addr) (pn pc:Nat) (t x y:Int) (A:Option Addr) (n c:Nat) (E:Int) (hE:E≠0) (FA BA:Option Addr) (fn fc bn bc:Nat) (w:Aj)
  (hfc:∀w':Aj,Below w.heap.size w w'→Al Tryz.prog 14 #[.agg #[Ad FA fn fc,Ad BA bn bc]] w' (Co (Aa Ab 0) w'))
  (hck:∀w':Aj,Below w.heap.size w w'→Al Tryz.prog 16 #[.agg #[Aa Ab a,Aa Ab b,Ad pA pn pc,Aa Ac t,Aa Ab x,Aa Ab y,Ad A n c]] w' (Co (Aa Ab E) w')):
  Al Tryz.prog 9 #[.agg #[Ad FA fn fc,Ad BA bn bc],.agg #[Aa Ab a,Aa Ab b,Ad pA pn pc,Aa Ac t,Aa Ab x,Aa Ab y,Ad A n c]] w (Co (.tuple #[Ad Ae 0 0,Aa Ab E]) w):=by
 have HCK:=Ah hck;have HFC:=Ah hfc;have HE:=Ah hE;have q8:(E != 0)=true:=by simpa using hE
 have H:=((Bx.start w).new #[Ad FA fn fc,Ad BA bn bc] 39 rfl).new #[Aa Ab a,Aa Ab b,Ad pA pn pc,Aa Ac t,Aa Ab x,Aa Ab y,Ad A n c] 33 (N:=w.heap.size+1) Cn;clear hck hE hfc;go_enter Tryz.func9,Tryz.ntmps9;go_upto_region 1 with fail;obtain⟨N,hN⟩:=ez w.heap.size;rw[←hN]at H⊢;have HNN:=Ah hN;clear hN;obtain⟨P1,hP1⟩:=ey (N+1);rw[hP1]at H⊢;clear hP1;obtain⟨W1,hW1⟩:=ez ((w.alloc (.cells #[Ad FA fn fc,Ad BA bn bc] 39)).alloc (.cells #[Aa Ab a,Aa Ab b,Ad pA pn pc,Aa Ac t,Aa Ab x,Aa Ab y,Ad A n c] 33));rw[←hW1]at H⊢;clear hW1;obtain⟨⟨f0,f1⟩,-⟩:=Cy (H.blk 0 _ _ _ rfl);go_wp2_with fail;refine(HFC.out _ H.below).mono ?_;rintro ee w2 ⟨rfl,hb⟩;have H2:=H.call hb;clear f0 f1 hb HFC H;obtain⟨a0,a1,a2,a3,a4,a5,a6⟩:=Gb (H2.blk 1 _ _ _ rfl);go_wp2_with fail;refine(Xa1 a b pA pn pc t x y A n c E HE.out _ λw' hb=>HCK.out w' (H2.below.trans (hb.mono H2.below.size))).mono ?_;rintro ee w3 ⟨rfl,hb⟩;have H3:=Ah (H2.call hb).below;clear a0 a1 a2 a3 a4 a5 a6 hb HCK H2;go_wp2_with fail;refine Ai (v:= .tuple #[Ad Ae 0 0,Aa Ab E]) (by simp[results,Tryz.results9,go_sem]) rfl ?_;exact⟨rfl,H3.out⟩
theorem Xb2 {s:St} (hg:Gs s):St.chk ⟨s.a,s.b,s.cr,s.root,[]⟩=6:=by
 have hc:0<Cq s.a s.b:=by
  have:=Ho hg.pat.sheet;unfold Cq;rw[show 4*s.a*s.b=4*(s.a*s.b)from Int.mul_assoc ..];omega
 have h1:chkS (Cq s.a s.b) []=6:=by
  unfold chkS Cw;simp[hc]
 have h2:Jv s.a s.b s.cr s.root []=6:=by
  unfold Jv;rw[if_neg (by rw[hg.both];decide),if_pos (by rw[h1];decide),h1]
 unfold St.chk;dsimp only;rw[h2,if_pos Ct]
theorem Xb3 (fr bk:List (List Int)):(bsL (bW fr bk)).toList.isEmpty=(fmE fr bk != 0):=by
 have e:(bsL (bW fr bk)).toList=bW fr bk:=by
  unfold bsL;rw[ByteArray.toList_mk]
 rw[e];unfold bW;by_cases h:fmE fr bk=0
 ·rw[if_pos h,h];simp[Xk,Uk]
 ·rw[if_neg h];have:(fmE fr bk != 0)=true:=by simpa using h
  rw[this];rfl
def Xa4 (nf nb side:Nat):Nat:=if side=0 then 0 else if side=1 then nf else nf+nb
theorem Xc1 {A B:List Gq} {j:Nat} (h:j<(A++B).length):(ksL A++ksL B)[j]? =Af (A++B)[j].ks:=by
 unfold ksL;rw[Wm,List.getElem?_map,Aw h];rfl
theorem Xa7 (rs:List Gq):∀k,(∀j (h:j<rs.length),j<k→rs[j].ks.length≤8)→k≤rs.length→(Nt rs k).length≤8*k
 |0,_,_=>by simp[Nt]
 |k+1,h,hk=>by
  rw[Uf rs k hk,Bh];have h1:=Xa7 rs k (λj h1 h2=>h j h1 Ci) Ci;have h2:=h k Ci Ci;omega
theorem Xc2 {A B:List Gq} {a b:Nat} (h0:fmE (ksL A) (ksL B)=0) (hf:pV a b (ksL A)):(ksL A++ksL B).flatten.length=2*(a*b):=by
 obtain⟨e1,e2,e3,e4,e5⟩:=dE h0;obtain⟨f1,f2⟩:=hf;rw[f2]at e4;rw[Pv _ e4,Bh,←e2,f1,←Nat.two_mul,Nat.mul_assoc,Nat.mul_comm b a]
theorem btr {a b c:Aj} (h:Below a.heap.size a b) (h2:Below b.heap.size b c):Below a.heap.size a c:=h.trans (h2.mono h.size)
theorem Xa2 {n k:Nat} (h:k<n):k+1≤n:=h
theorem Xa0 {n k:Nat} (h:k<n):n-(intOf (Aa Ab ((k:Int)+1))).toNat<n-(intOf (Aa Ab (k:Int))).toNat:=by
 simpa using Xm h
end Go.Proofs.YthpcfeifmdbhnaaGreatDoor
