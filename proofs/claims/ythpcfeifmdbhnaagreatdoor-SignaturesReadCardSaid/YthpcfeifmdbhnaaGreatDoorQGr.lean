import Derived.Test.YthpcfeifmdbhnaaGreatDoorQGc
open List renaming append_assoc→Bj,flatMap_append→Bi,flatMap_cons→Bf,getElem?_eq_getElem→Aw,getElem_mem→Ay,mem_append→Bl,mem_cons→Bk,mem_iff_getElem→Be,nodup_append→Bp,replicate→Ba
open Nat renaming le_refl→Am
open Option renaming none→Ae,some→Af
set_option maxHeartbeats 4000000
namespace Go.Proofs.YthpcfeifmdbhnaaGreatDoor
def paE (a i:Nat):Nat×Nat:=
 if i%4=1 then (i-1,1)else if i%4=2 then (i-1,2)
 else if i/4/a=0∧i/4≠0 then (if i%4=3 then (4*(i/4-1)+1,0)else (i+3,2))
 else if i%4=3 then (i-3,2)else (4*(i/4-a)+2,0)
def deE (a i:Nat):Nat:=3*(i/4%a)+3*(i/4/a)+(if i%4=3 then 1 else i%4)-(if i%4=3∧i/4/a=0∧i/4≠0 then 2 else 0)
def rK (a b i:Nat):Prop:=(paE a i).1<4*a*b∧(paE a i).2≤2∧nbI (a:Int) (b:Int) ((paE a i).1:Int) ((paE a i).2:Int)=((i:Int),0)∧deE a (paE a i).1<deE a i
instance (a b i:Nat):Decidable (rK a b i):=by unfold rK;infer_instance
def rG (a b i e:Nat):Prop:=
 (nbI (a:Int) (b:Int) (i:Int) (e:Int)).1.toNat<4*a*b∧0≤(nbI (a:Int) (b:Int) (i:Int) (e:Int)).1∧
 Cp (a:Int) (nbI (a:Int) (b:Int) (i:Int) (e:Int)).1.toNat=Gc (Cp (a:Int) i) e∧
 qM (a:Int) (b:Int) (Dl (a:Int) (b:Int) (i:Int) (e:Int)).1 (Dl (a:Int) (b:Int) (i:Int) (e:Int)).2.1=(Et (Cp (a:Int) i) e,0)∧
 okL (Et (Cp (a:Int) i) e).1 (Et (Cp (a:Int) i) e).2=true∧
 nbI (a:Int) (b:Int) (nbI (a:Int) (b:Int) (i:Int) (e:Int)).1 (e:Int)=((i:Int),0)∧(nbI (a:Int) (b:Int) (i:Int) (e:Int)).1≠(i:Int)
instance (a b i e:Nat):Decidable (rG a b i e):=by unfold rG;infer_instance
structure Jb (a b:Nat):Prop where
 ok:okS (a:Int) (b:Int)=true
 tree:∀i,i<4*a*b→i≠0→rK a b i
 step:∀i e:Nat,i<4*a*b→e≤2→(nbI (a:Int) (b:Int) (i:Int) (e:Int)).2=0→rG a b i e
theorem oH:(([1,2,4,8]:List Nat).all λa=>([1,2,4]:List Nat).all λb=>(List.range (4*a*b)).all λi=>decide (i≠0→rK a b i)&&(List.range 3).all λe=>decide ((nbI (a:Int) (b:Int) (i:Int) (e:Int)).2=0→rG a b i e))=true:=by decide+kernel
theorem Zb {a b:Nat} (ha:a∈([1,2,4,8]:List Nat)) (hb:b∈([1,2,4]:List Nat)):Jb a b:=by
 have h:=List.all_eq_true.1 (List.all_eq_true.1 oH a ha) b hb;have at':∀i,i<4*a*b→_:=λi hi=>(Bool.and_eq_true _ _▸List.all_eq_true.1 h i (List.mem_range.2 hi):_∧_);refine⟨?_,λi hi h0=>?_,λi e hi he h0=>?_⟩
 ·have key:(([1,2,4,8]:List Nat).all λa=>([1,2,4]:List Nat).all λb=>okS (a:Int) (b:Int))=true:=Ct;exact List.all_eq_true.1 (List.all_eq_true.1 key a ha) b hb
 ·exact of_decide_eq_true (at' i hi).1 h0
 ·exact of_decide_eq_true (List.all_eq_true.1 (at' i hi).2 e (List.mem_range.2 Ci)) h0
theorem Em (a b:Nat):Cq (a:Int) (b:Int)=4*a*b:=by
 unfold Cq;have:(4*(a:Int)*(b:Int))=((4*a*b:Nat):Int):=Cn;rw[this];rfl
theorem Jb.conn {a b:Nat} (S:Jb a b) (D:Nat→Prop) (h0:D 0) (hs:∀i,i<4*a*b→D i→∀e:Nat,e≤2→(nbI (a:Int) (b:Int) (i:Int) (e:Int)).2=0→D (nbI (a:Int) (b:Int) (i:Int) (e:Int)).1.toNat):∀i,i<4*a*b→D i:=by
 have:∀d i,deE a i≤d→i<4*a*b→D i:=by
  intro d
  induction d with
  |zero=>
   intro i hd hi;by_cases hz:i=0
   ·rw[hz];exact h0
   ·have:=(S.tree i hi hz).2.2.2;omega
  |succ d ih=>
   intro i hd hi;by_cases hz:i=0
   ·rw[hz];exact h0
   ·obtain⟨t1,t2,t3,t4⟩:=S.tree i hi hz;have:=hs _ t1 (ih _ Ci t1) _ t2 (by rw[t3]);rw[t3]at this;simpa using this
 exact λi hi=>this _ i (Am _) hi
def RV (a b:Int) (m':List Mv) (s:RS):Prop:=s.out.length=Cq a b∧s.known.length=Cq a b∧(∀j,s.known.getD j false=true→s.out.getD j mv0=m'.getD j mv0)∧∀j∈s.wait,j<Cq a b∧s.known.getD j false=true
theorem Uz {a b:Nat} (S:Jb a b) {l:List Cr} {m':List Mv} (hrel:∀i,i<4*a*b→∀e:Nat,e≤2→(nbI (a:Int) (b:Int) (i:Int) (e:Int)).2=0→m'.getD (nbI (a:Int) (b:Int) (i:Int) (e:Int)).1.toNat mv0=Fj a b l m' i e)
  {s:RS} {id e:Nat} (hs:RV a b m' s) (hid:id<4*a*b) (hk:s.known.getD id false=true) (he:e≤2):∃s',Jw a b l id e s=Af s'∧RV a b m' s'∧∀j,s.known.getD j false=true→s'.known.getD j false=true:=by
 obtain⟨r1,r2,r3,r4⟩:=hs;unfold Jw
 split
 ·exact⟨s,rfl,⟨r1,r2,r3,r4⟩,λ_ h=>h⟩
 ·rename_i h0;have h0:(nbI (a:Int) (b:Int) (id:Int) (e:Int)).2=0:=Classical.not_not.1 h0;have hn:=(S.step id e hid he h0).1;have hm:=hrel id hid e he h0;rw[Pq (o:=s.out) (a:=(a:Int)) (b:=(b:Int)) (l:=l) e (r3 id hk).symm]at hm;rw[←Em]at hn;obtain⟨n,hnn⟩:=ey ((nbI (a:Int) (b:Int) (id:Int) (e:Int)).1.toNat);rw[hnn]at hn hm⊢;dsimp only
  cases hkn:s.known.getD n false with
  |true=>
   rw[if_pos rfl,if_pos (by rw[r3 n hkn,hm])];exact⟨s,rfl,⟨r1,r2,r3,r4⟩,λ_ h=>h⟩
  |false=>
   rw[if_neg (show¬(false=true)by decide)];rw[if_pos (Hf _ _ _ _ Ci)];refine⟨_,rfl,⟨by simp[r1],by simp[r2],λj hj=>?_,λj hj=>?_⟩,λj hj=>?_⟩
   ·dsimp only at hj⊢;by_cases hjn:j=n
    ·subst hjn;rw[Hf _ _ _ _ Ci,hm]
    ·rw[Jd _ _ _ _ _ hjn]at hj⊢;exact r3 j hj
   ·dsimp only at hj⊢;rcases Bl.1 hj with hj|hj
    ·refine⟨(r4 j hj).1,?_⟩;by_cases hjn:j=n
     ·subst hjn;exact Hf _ _ _ _ Ci
     ·rw[Jd _ _ _ _ _ hjn];exact(r4 j hj).2
    ·have:j=n:=by simpa using hj
     subst this;exact⟨hn,Hf _ _ _ _ Ci⟩
   ·dsimp only;by_cases hjn:j=n
    ·subst hjn;exact Hf _ _ _ _ Ci
    ·rw[Jd _ _ _ _ _ hjn];exact hj
theorem Yv {a b:Nat} (S:Jb a b) {l:List Cr} {m':List Mv} (hrel:∀i,i<4*a*b→∀e:Nat,e≤2→(nbI (a:Int) (b:Int) (i:Int) (e:Int)).2=0→m'.getD (nbI (a:Int) (b:Int) (i:Int) (e:Int)).1.toNat mv0=Fj a b l m' i e):
  ∀(f:Nat) (s:RS),RV a b m' s→∃m,Ml a b l f s=Af m
 |0,s,_=>⟨s.out,rfl⟩
 |f+1,s,hs=>by
  unfold Ml
  cases hw:s.wait with
  |nil=>exact⟨s.out,rfl⟩
  |cons id r=>
   dsimp only;obtain⟨r1,r2,r3,r4⟩:=hs;have hid:=r4 id (by rw[hw];simp);rw[Em]at hid;have h0:RV a b m' ⟨s.out,s.known,r⟩:=⟨r1,r2,r3,λj hj=>r4 j (by rw[hw];exact List.mem_cons_of_mem _ hj)⟩;obtain⟨s1,e1,v1,k1⟩:=Uz S hrel (e:=0) h0 hid.1 hid.2 Ci;obtain⟨s2,e2,v2,k2⟩:=Uz S hrel (e:=1) v1 hid.1 (k1 _ hid.2) Ci;obtain⟨s3,e3,v3,-⟩:=Uz S hrel (e:=2) v2 hid.1 (k2 _ (k1 _ hid.2)) Ci;unfold Ll;rw[e1,Option.bind_some,e2,Option.bind_some,e3,Option.bind_some];exact Yv S hrel f s3 v3
theorem nQ {a b:Nat} (S:Jb a b) {l:List Cr} {m':List Mv} (hl:m'.length=4*a*b) (h0:m'.getD 0 mv0=mv0) (hrel:∀i,i<4*a*b→∀e:Nat,e≤2→(nbI (a:Int) (b:Int) (i:Int) (e:Int)).2=0→m'.getD (nbI (a:Int) (b:Int) (i:Int) (e:Int)).1.toNat mv0=Fj a b l m' i e):
  Od a b l=Af m':=by
 have hc:1≤Cq (a:Int) (b:Int):=by
  have:=Ho S.ok;unfold Cq;rw[show 4*(a:Int)*b=4*((a:Int)*b)from Int.mul_assoc ..];omega
 have hv:RV a b m' ⟨Ba (Cq (a:Int) (b:Int)) mv0,true::Ba (Cq (a:Int) (b:Int)-1) false,[0]⟩:=by
  refine⟨Cn,by simp;omega,λj hj=>?_,λj hj=>?_⟩
  ·cases j with
   |zero=>
    rw[h0]
    cases hcc:Cq (a:Int) (b:Int)with
    |zero=>omega
    |succ k=>rfl
   |succ j=>
    dsimp only at hj;simp[List.getD,List.getElem?_replicate]at hj
    split at hj<;>simp at hj
  ·have:j=0:=by simpa using hj
   subst this;exact⟨Ci,rfl⟩
 obtain⟨m,hm⟩:=Yv S hrel (Cq (a:Int) (b:Int)+1) _ hv;have hm:Od (a:Int) (b:Int) l=Af m:=hm;obtain⟨g0,D,hD0,hD⟩:=An5 S.ok hm
 have hall:∀i,i<4*a*b→i∈D∧m.getD i mv0=m'.getD i mv0:=S.conn (λi=>i∈D∧m.getD i mv0=m'.getD i mv0) ⟨hD0,by rw[g0,h0]⟩ λi hi hd e he h=>by
  obtain⟨d1,d2⟩:=hD i hd.1 e he h;refine⟨d1,?_⟩;rw[d2,hrel i hi e he h,Pq (a:=(a:Int)) (b:=(b:Int)) (l:=l) e hd.2]
 rw[hm]
 congr 1
 have hml:=(Yu hm).1;rw[Em]at hml;apply List.ext_getElem Ci;intro i h1 h2;have:=(hall i Ci).2;simpa[List.getD,h1,h2]using this
theorem Ao9 (a b:Mv) (ha:a.t≤7) (hb:b.t≤7):mat (thn a b).t=Du (mat a.t) (mat b.t):=by
 have key:∀t,t<8→∀u,u<8→mat (Gg (Du (mat t) (mat u)))=Du (mat t) (mat u):=by decide+kernel
 exact key a.t Ci b.t Ci
theorem Vf (a b c:Mv) (ha:a.t≤7) (hb:b.t≤7) (hc:c.t≤7):thn (thn a b) c=thn a (thn b c):=by
 have key:∀t,t<8→∀u,u<8→∀v,v<8→Gg (Du (mat (Gg (Du (mat t) (mat u)))) (mat v))=Gg (Du (mat t) (mat (Gg (Du (mat u) (mat v))))):=by decide+kernel
 have h1:=key a.t Ci b.t Ci c.t Ci;have h2:=Ao9 b c hb hc
 have h3:∀x y:Int,(Dk (mat c.t) ((Dk (mat b.t) x y).1+b.x) ((Dk (mat b.t) x y).2+b.y)).1+c.x=(Dk (Du (mat b.t) (mat c.t)) x y).1+((Dk (mat c.t) b.x b.y).1+c.x)∧(Dk (mat c.t) ((Dk (mat b.t) x y).1+b.x) ((Dk (mat b.t) x y).2+b.y)).2+c.y=(Dk (Du (mat b.t) (mat c.t)) x y).2+((Dk (mat c.t) b.x b.y).2+c.y):=by
  intro x y;obtain⟨t,b1,b2⟩:=b;obtain⟨u,c1,c2⟩:=c;dsimp only at hb hc;rcases Zw hb with rfl|rfl|rfl|rfl|rfl|rfl|rfl|rfl<;>rcases Zw hc with rfl|rfl|rfl|rfl|rfl|rfl|rfl|rfl<;>
  simp[Dk,mat,Du]<;>omega
 have h4:=h3 a.x a.y;rw[←h2]at h4;unfold thn at h1 h4⊢;dsimp only at h1 h4⊢;rw[h1,h4.1,h4.2]
theorem Ad7 (m:Mv) (h:m.t≤7):thn m mv0=m:=by
 obtain⟨t,x,y⟩:=m;dsimp only at h;rcases Zw h with rfl|rfl|rfl|rfl|rfl|rfl|rfl|rfl<;>simp[thn,mv0,Dk,mat,Du,Gg]
theorem Qx (k c:Int):(ofL k c).t≤7:=by
 unfold ofL
 repeat' split
 all_goals (dsimp only;omega)
theorem Qm (k c x y:Int):Ka k c x y=1↔2*c<Hx k x y:=by
 unfold Ka
 split
 ·omega
 ·split<;>omega
theorem Av2 {A B:Prop} [Decidable A] [Decidable B]:((if A then 1 else 0:Nat)≠(if B then 1 else 0))↔¬(A↔B):=by
 split<;>split<;>simp[*]
theorem Aj7 {A B:Prop} [Decidable A] [Decidable B]:((if A then 1 else 0:Nat)=1-(if B then 1 else 0))↔(A↔¬B):=by
 split<;>split<;>simp[*]
theorem Am7 {k c:Int} (hk:1≤k∧k≤4):thn (ofL k c) (ofL k c)=mv0:=by
 have h:k=1∨k=2∨k=3∨k=4:=Ci;rcases h with rfl|rfl|rfl|rfl<;>simp[thn,ofL,mv0,Dk,mat,Du,Gg]<;>omega
theorem sI (m:Mv) (ht:m.t≤7) (c:Cl) (hq:c.q≤3) (e:Nat) (he:e≤2):∃e',e'≤2∧Da m (Gc c e)=Gc (Da m c) e'∧thn (ofL (Et c e).1 (Et c e).2) m=thn m (ofL (Et (Da m c) e').1 (Et (Da m c) e').2):=by
 obtain⟨t,a,b⟩:=m;obtain⟨x,y,q⟩:=c;dsimp only at ht hq;rcases Zw ht with rfl|rfl|rfl|rfl|rfl|rfl|rfl|rfl<;>rcases Wg hq with rfl|rfl|rfl|rfl<;>rcases dL he with rfl|rfl|rfl<;>
 first
  |(refine⟨0,Ct,?_,?_⟩<;>
    simp[Da,Gc,Ee,Dk,mat,Ea,Hk,nxt,thn,ofL,Et,Du,Gg]<;>
    omega)
  |(refine⟨1,Ct,?_,?_⟩<;>
    simp[Da,Gc,Ee,Dk,mat,Ea,Hk,nxt,thn,ofL,Et,Du,Gg]<;>
    omega)
  |(refine⟨2,Ct,?_,?_⟩<;>
    simp[Da,Gc,Ee,Dk,mat,Ea,Hk,nxt,thn,ofL,Et,Du,Gg]<;>
    omega)
theorem Um {k c:Int} (hk:1≤k∧k≤4) (d:Cl) (hq:d.q≤3) (e:Nat) (he:e≤2) (h:Dy k c d≠Dy k c (Gc d e)):Et d e=(k,c):=by
 obtain⟨x,y,q⟩:=d;dsimp only at hq;have hk:k=1∨k=2∨k=3∨k=4:=Ci;rcases hk with rfl|rfl|rfl|rfl<;>rcases Wg hq with rfl|rfl|rfl|rfl<;>rcases dL he with rfl|rfl|rfl<;>
 (simp only[Dy,Qm,Av2]at h
  simp[Hx,Gc,nxt,Oa,Ob]at h;simp[Et];omega)
theorem Tj (k c:Int) (d:Cl):Dy k c d=0∨Dy k c d=1:=by
 unfold Dy
 split
 ·exact .inr rfl
 ·exact .inl rfl
theorem Ux {k c:Int} (hk:1≤k∧k≤4) (d:Cl) (hq:d.q≤3):Da (ofL k c) (Da (ofL k c) d)=d∧Dy k c (Da (ofL k c) d)=1-Dy k c d:=by
 obtain⟨x,y,q⟩:=d;dsimp only at hq;have hk:k=1∨k=2∨k=3∨k=4:=Ci;rcases hk with rfl|rfl|rfl|rfl<;>rcases Wg hq with rfl|rfl|rfl|rfl<;>
 (refine⟨?_,?_⟩
  ·simp[Da,Ee,Dk,mat,Ea,Hk,ofL]<;>omega
  ·simp only[Dy,Qm,Aj7];simp[Da,Ee,Dk,mat,Ea,Hk,ofL,Oa,Ob,Hx];omega)
theorem Ao4 (d:Cl) (hq:d.q≤3) (e:Nat) (he:e≤2):Gc d e≠d:=by
 obtain⟨x,y,q⟩:=d;dsimp only at hq;rcases Wg hq with rfl|rfl|rfl|rfl<;>rcases dL he with rfl|rfl|rfl<;>simp[Gc,nxt]
theorem gT {m:Mv} (ht:m.t≤7) {c:Cl} {n:Int} (hc: -n≤c.x∧c.x≤n∧-n≤c.y∧c.y≤n) (hd: -n≤(Da m c).x∧(Da m c).x≤n∧-n≤(Da m c).y∧(Da m c).y≤n): -(2*n+2)≤m.x∧m.x≤2*n+2∧-(2*n+2)≤m.y∧m.y≤2*n+2:=by
 obtain⟨t,a,b⟩:=m;obtain⟨x,y,q⟩:=c;dsimp only at ht hc;rcases Zw ht with rfl|rfl|rfl|rfl|rfl|rfl|rfl|rfl<;>simp[Da,Ee,Dk,mat]at hd<;>dsimp only<;>omega
def Lx (d:Cl):Prop:= -256≤d.x∧d.x≤256∧-256≤d.y∧d.y≤256
structure Ns (a b:Nat) (cr:List Cr) (m:List Mv):Prop where
 len:m.length=4*a*b
 zero:m.getD 0 mv0=mv0
 ok:∀i,i<4*a*b→(m.getD i mv0).ok=true
 near:∀i,i<4*a*b→Lx (Da (m.getD i mv0) (Cp (a:Int) i))
 rel:∀i e:Nat,i<4*a*b→e≤2→(nbI (a:Int) (b:Int) (i:Int) (e:Int)).2=0→m.getD (nbI (a:Int) (b:Int) (i:Int) (e:Int)).1.toNat mv0=
  if It cr (Dl (a:Int) (b:Int) (i:Int) (e:Int)).1 (Dl (a:Int) (b:Int) (i:Int) (e:Int)).2.1 then thn (ofL (Et (Cp (a:Int) i) e).1 (Et (Cp (a:Int) i) e).2) (m.getD i mv0)else m.getD i mv0
theorem Qc {m:Mv}:m.ok=true↔m.t≤7∧(-16384≤m.x∧m.x≤16384)∧(-16384≤m.y∧m.y≤16384)∧(m.x+m.y)%2=0:=by
 unfold Mv.ok;rw[Mg]
 constructor<;>(rintro⟨h1,h2⟩;exact⟨Ci,h2⟩)
theorem Ad8 {k c:Int} (hk:okL k c=true) {m:Mv} (hm:m.ok=true) (hs: -1000≤m.x∧m.x≤1000∧-1000≤m.y∧m.y≤1000):(thn (ofL k c) m).ok=true∧(thn m (ofL k c)).ok=true:=by
 obtain⟨h1,h2,h3,h4⟩:=Ic.1 hk;rw[Qc]at hm;rw[Qc,Qc];obtain⟨t,x,y⟩:=m;dsimp only at hm hs;have hk:k=1∨k=2∨k=3∨k=4:=Ci;refine⟨⟨Ar3 _ _,?_⟩,⟨Ar3 _ _,?_⟩⟩<;>
 (rcases hk with rfl|rfl|rfl|rfl<;>rcases Zw hm.1 with rfl|rfl|rfl|rfl|rfl|rfl|rfl|rfl<;>simp[thn,ofL,Dk,mat]<;>omega)
theorem Ke {a b:Int} (hs:okS a b=true) {i:Nat} (hi:i<Cq a b):Lx (Cp a i):=by
 obtain⟨h1,h2,h3,h4,-⟩:=eW hs hi;exact⟨Ci,Ci,Ci,Ci⟩
theorem bX {x y:Mv} (hx:x.ok=true) (hy:y.ok=true) (h:(thn x y).ok=true):Gi x y=(thn x y,0):=by
 unfold Gi;rw[hx,hy,Bool.and_self,if_pos rfl];show Zt (thn x y)=_;unfold Zt;rw[if_pos h]
theorem Am8 {k c:Int} (hk:okL k c=true):(ofL k c).ok=true:=by
 obtain⟨h1,h2,h3,h4⟩:=Ic.1 hk;rw[Qc];refine⟨Qx k c,?_⟩;have hk:k=1∨k=2∨k=3∨k=4:=Ci;rcases hk with rfl|rfl|rfl|rfl<;>simp[ofL]<;>omega
theorem rP {a b:Nat} (S:Jb a b) {l:List Cr} {m:List Mv} {i e:Nat} (hi:i<4*a*b) (he:e≤2) (h0:(nbI (a:Int) (b:Int) (i:Int) (e:Int)).2=0) (hm:(m.getD i mv0).ok=true) (hn:Lx (Da (m.getD i mv0) (Cp (a:Int) i))):
  Fj a b l m i e=if It l (Dl (a:Int) (b:Int) (i:Int) (e:Int)).1 (Dl (a:Int) (b:Int) (i:Int) (e:Int)).2.1 then thn (ofL (Et (Cp (a:Int) i) e).1 (Et (Cp (a:Int) i) e).2) (m.getD i mv0)else m.getD i mv0:=by
 obtain⟨-,-,-,h2,h3,-⟩:=S.step i e hi he h0;have hc:=Ke S.ok (i:=i) (by rw[Em];exact hi);have hs:=gT (Pf hm) hc hn;unfold Fj
 split
 ·rw[h2];unfold On;dsimp only;rw[if_pos h3];dsimp only;rw[bX (Am8 h3) hm (Ad8 h3 hm Ci).1]
 ·rfl
theorem Kt {d:Cl} (h:Lx d) (hq:d.q≤3):d.ok=true:=by
 unfold Lx at h;unfold Cl.ok;rw[Eu];omega
theorem Yq {a b:Nat} (S:Jb a b) {l:List Cr} {m:List Mv} (P:Ns a b l m):Df a b l mv0=((m,(List.range (4*a*b)).map λi=>Da (m.getD i mv0) (Cp (a:Int) i)),0):=by
 have hr:Od a b l=Af m:=nQ S P.len P.zero λi hi e he h0=>by
  rw[P.rel i e hi he h0,rP S hi he h0 (P.ok i hi) (P.near i hi)]
 have t0:∀x:Mv,x.ok=true→Gi x mv0=(x,0):=λx hx=>by
  have e:=Ad7 x (Pf hx);rw[bX hx Ct (by rw[e];exact hx),e]
 have mg:∀i,i<4*a*b→Kq (m.getD i mv0) (Cp (a:Int) i)=(Da (m.getD i mv0) (Cp (a:Int) i),0):=λi hi=>by
  have hc:(Cp (a:Int) i).ok=true:=Kt (Ke S.ok (by rw[Em];exact hi)) (Fe _ _);unfold Kq;rw[P.ok i hi,hc,Bool.and_self,if_pos rfl];unfold Gp;rw[if_pos (Kt (P.near i hi) (Eb _ _))]
 have hall:∀x∈m,x.ok=true:=λx hx=>by
  obtain⟨i,hi,rfl⟩:=Be.1 hx;have:=P.ok i (by have:=P.len;omega);simpa[List.getD,hi]using this
 unfold Df;rw[if_neg Ct,hr];dsimp only
 have hf:(List.range m.length).find? (λi=>decide (Gy (a:Int) mv0 m i≠0))=Ae:=by
  rw[List.find?_eq_none];intro i hi;have hi:i<4*a*b:=by have:=List.mem_range.1 hi;have:=P.len;omega
  unfold Gy;rw[t0 _ (P.ok i hi)];dsimp only;rw[mg i hi];simp
 rw[hf];dsimp only
 congr 2
 ·conv=>rhs;rw[←List.map_id m]
  exact List.map_congr_left λx hx=>by rw[t0 x (hall x hx)];rfl
 ·rw[P.len];refine List.map_congr_left λi hi=>?_;have hi:=List.mem_range.1 hi;rw[t0 _ (P.ok i hi),mg i hi]
def imP (a:Nat) (m:List Mv) (i:Nat):Cl:=Da (m.getD i mv0) (Cp (a:Int) i)
def sdF (k c:Int) (side:Nat) (d:Cl):Bool:=decide (Dy k c d=side)
def plF (a b:Nat) (k c:Int) (side:Nat) (m:List Mv):List Mv:=(List.range (4*a*b)).map λi=>if sdF k c side (imP a m i)then thn (m.getD i mv0) (ofL k c)else m.getD i mv0
theorem Lz {a b:Nat} {k c:Int} {side:Nat} {m:List Mv} {i:Nat} (hi:i<4*a*b):(plF a b k c side m).getD i mv0=if sdF k c side (imP a m i)then thn (m.getD i mv0) (ofL k c)else m.getD i mv0:=by
 unfold plF;rw[List.getD_eq_getElem?_getD,List.getElem?_map,List.getElem?_range hi];rfl
theorem Sl {a b:Nat} {k c:Int} {side:Nat} {m:List Mv} {i:Nat} (hi:i<4*a*b) (hm:(m.getD i mv0).ok=true):imP a (plF a b k c side m) i=if sdF k c side (imP a m i)then Da (ofL k c) (imP a m i)else imP a m i:=by
 unfold imP;rw[Lz hi];unfold imP
 split
 ·exact Uo _ _ (Pf hm) (Qx k c) _ (Fe _ _)
 ·rfl
section
variable {a b:Nat} {cr:List Cr} {m:List Mv}
theorem So (S:Jb a b) (P:Ns a b cr m) {i e:Nat} (hi:i<4*a*b) (he:e≤2) (h0:(nbI (a:Int) (b:Int) (i:Int) (e:Int)).2=0) (hc:It cr (Dl (a:Int) (b:Int) (i:Int) (e:Int)).1 (Dl (a:Int) (b:Int) (i:Int) (e:Int)).2.1=true):
  imP a m (nbI (a:Int) (b:Int) (i:Int) (e:Int)).1.toNat=imP a m i:=by
 obtain⟨-,-,h1,-,h3,-⟩:=S.step i e hi he h0;unfold imP;rw[P.rel i e hi he h0,if_pos hc,h1,Uo _ _ (Qx _ _) (Pf (P.ok i hi)) _ (by rw[←h1];exact Fe _ _),(Uy _ (Fe _ _) e he).1]
theorem Py (S:Jb a b) (P:Ns a b cr m) {i e:Nat} (hi:i<4*a*b) (he:e≤2) (h0:(nbI (a:Int) (b:Int) (i:Int) (e:Int)).2=0) (hc:It cr (Dl (a:Int) (b:Int) (i:Int) (e:Int)).1 (Dl (a:Int) (b:Int) (i:Int) (e:Int)).2.1=false):
  imP a m (nbI (a:Int) (b:Int) (i:Int) (e:Int)).1.toNat=Da (m.getD i mv0) (Gc (Cp (a:Int) i) e):=by
 obtain⟨-,-,h1,-⟩:=S.step i e hi he h0;unfold imP;rw[P.rel i e hi he h0,if_neg (by rw[hc];decide),h1]
theorem Bb9 {k c:Int} {side:Nat} {p q:Cl} (h:sdF k c side p≠sdF k c side q):Dy k c p≠Dy k c q:=λe=>h (by unfold sdF;rw[e])
theorem nG (S:Jb a b) (P:Ns a b cr m) {cr':List Cr} {k c:Int} {side:Nat} (hl:okL k c=true) (h00:sdF k c side (imP a m 0)=false)
  (hcr:∀i e:Nat,i<4*a*b→e≤2→(nbI (a:Int) (b:Int) (i:Int) (e:Int)).2=0→It cr' (Dl (a:Int) (b:Int) (i:Int) (e:Int)).1 (Dl (a:Int) (b:Int) (i:Int) (e:Int)).2.1=
   (It cr (Dl (a:Int) (b:Int) (i:Int) (e:Int)).1 (Dl (a:Int) (b:Int) (i:Int) (e:Int)).2.1||(sdF k c side (imP a m i) != sdF k c side (imP a m (nbI (a:Int) (b:Int) (i:Int) (e:Int)).1.toNat))))
  (hn:∀i,i<4*a*b→Lx (if sdF k c side (imP a m i)then Da (ofL k c) (imP a m i)else imP a m i)):Ns a b cr' (plF a b k c side m):=by
 have hk:=Ic.1 hl;have hk14:1≤k∧k≤4:=⟨hk.1,hk.2.1⟩
 have hpos:0<4*a*b:=by
  have:=Ho S.ok
  have h1:1≤Cq (a:Int) (b:Int):=by
   unfold Cq;rw[show 4*(a:Int)*b=4*((a:Int)*b)from Int.mul_assoc ..];omega
  rw[Em]at h1;omega
 refine⟨by unfold plF;simp,?_,λi hi=>?_,λi hi=>?_,λi e hi he h0=>?_⟩
 ·rw[Lz hpos,if_neg (by rw[h00];decide),P.zero]
 ·rw[Lz hi]
  split
  ·have hs:=gT (Pf (P.ok i hi)) (Ke S.ok (i:=i) (by rw[Em];exact hi)) (P.near i hi);exact(Ad8 hl (P.ok i hi) Ci).2
  ·exact P.ok i hi
 ·have:=Sl (a:=a) (b:=b) (k:=k) (c:=c) (side:=side) hi (P.ok i hi);unfold imP at this;unfold imP at hn;rw[this];exact hn i hi
 ·obtain⟨g0,-,g1,-,g3,-⟩:=S.step i e hi he h0;have hR:=P.rel i e hi he h0;have hC:=hcr i e hi he h0;have ti:=Pf (P.ok i hi);rw[Lz g0,Lz hi,hC]
  cases hcc:It cr (Dl (a:Int) (b:Int) (i:Int) (e:Int)).1 (Dl (a:Int) (b:Int) (i:Int) (e:Int)).2.1 with
  |true=>
   rw[hcc,if_pos rfl]at hR;rw[So S P hi he h0 hcc,hR,Bool.true_or,if_pos rfl]
   split
   ·exact Vf _ _ _ (Qx _ _) ti (Qx _ _)
   ·rfl
  |false=>
   rw[hcc,if_neg Ct]at hR;rw[hR,Bool.false_or];by_cases hs:sdF k c side (imP a m i)=sdF k c side (imP a m (nbI (a:Int) (b:Int) (i:Int) (e:Int)).1.toNat)
   ·rw[←hs];simp
   ·have hnx:=Py S P hi he h0 hcc;obtain⟨e',he',s1,s2⟩:=sI (m.getD i mv0) ti (Cp (a:Int) i) (Fe _ _) e he;have hd:=Bb9 hs;rw[hnx,s1]at hd;have hln:=Um hk14 _ (Eb _ _) e' he' hd;rw[hln]at s2
    cases h1:sdF k c side (imP a m i)with
    |false=>
     have h2:sdF k c side (imP a m (nbI (a:Int) (b:Int) (i:Int) (e:Int)).1.toNat)=true:=by
      rw[h1]at hs
      cases h:sdF k c side (imP a m (nbI (a:Int) (b:Int) (i:Int) (e:Int)).1.toNat)
      ·rw[h]at hs;exact absurd rfl hs
      ·rfl
     rw[h2];exact s2.symm
    |true=>
     have h2:sdF k c side (imP a m (nbI (a:Int) (b:Int) (i:Int) (e:Int)).1.toNat)=false:=by
      rw[h1]at hs
      cases h:sdF k c side (imP a m (nbI (a:Int) (b:Int) (i:Int) (e:Int)).1.toNat)
      ·rfl
      ·rw[h]at hs;exact absurd rfl hs
     rw[h2];show m.getD i mv0=thn (ofL (Et (Cp (a:Int) i) e).1 (Et (Cp (a:Int) i) e).2) (thn (m.getD i mv0) (ofL k c));rw[←Vf _ _ _ (Qx _ _) ti (Qx _ _),s2,Vf _ _ _ ti (Qx _ _) (Qx _ _),Am7 hk14,Ad7 _ ti]
end
structure GSt (a b:Nat) (s:St) (m:List Mv):Prop where
 sa:s.a=(a:Int)
 sb:s.b=(b:Int)
 S:Jb a b
 pat:Gx s.a s.b s.cr
 root:s.root=mv0
 pl:Ns a b s.cr m
theorem Sv {l:List Cr} (hk:∀r∈l,isK r.k=true) (c e:Int):It l c e=decide (Cx l c e≠0):=by
 unfold It Cx
 cases hf:l.find? λr=>decide (r.c=c)&&decide (r.e=e)with
 |none=>
  rw[List.find?_eq_none]at hf
  have:(l.any λr=>decide (r.c=c)&&decide (r.e=e))=false:=by
   rw[List.any_eq_false];exact hf
  rw[this];rfl
 |some r=>
  have h1:=List.mem_of_find?_eq_some hf;have h2:=List.find?_some hf;have h3:=hk r h1;have:(l.any λr=>decide (r.c=c)&&decide (r.e=e))=true:=List.any_eq_true.2 ⟨r,h1,h2⟩;rw[this];unfold isK at h3;simp at h3;dsimp only
  symm
  rw[decide_eq_true_eq];omega
section
variable {a b:Nat} {s:St} {m:List Mv}
theorem GSt.both (G:GSt a b s m):Df s.a s.b s.cr s.root=((m,(List.range (4*a*b)).map λi=>imP a m i),0):=by
 rw[G.sa,G.sb,G.root,Yq G.S G.pl];rfl
theorem GSt.cnt (G:GSt a b s m):Cq s.a s.b=4*a*b:=by rw[G.sa,G.sb,Em]
theorem GSt.img (G:GSt a b s m) {i:Nat} (hi:i<4*a*b):s.img i=imP a m i:=by
 unfold St.img;rw[G.both];dsimp only;rw[List.getD_eq_getElem?_getD,List.getElem?_map,List.getElem?_range hi];rfl
def St.lk (s:St):Lk:=Yd s.a s.b s.cr s.root s.l
theorem GSt.kimg (G:GSt a b s m) {i:Nat} (hi:i<4*a*b):s.lk.img i=imP a m i:=G.img hi
theorem GSt.reg (G:GSt a b s m) {u:Nat×Nat} (h:s.lk.reg u):u.1<4*a*b∧u.2≤2∧(nbI (a:Int) (b:Int) (u.1:Int) (u.2:Int)).2=0∧s.lk.nb u<4*a*b∧s.lk.nb u=(nbI (a:Int) (b:Int) (u.1:Int) (u.2:Int)).1.toNat∧Dl (a:Int) (b:Int) (u.1:Int) (u.2:Int)=((u.1:Int),(u.2:Int),0)∧u.1<s.lk.nb u:=by
 obtain⟨h1,h2,h3,h4⟩:=h;have ea:s.lk.a=(a:Int):=G.sa;have eb:s.lk.b=(b:Int):=G.sb;rw[ea,eb]at h2 h3 h4;rw[Em]at h2
 have hn:s.lk.nb u=(nbI (a:Int) (b:Int) (u.1:Int) (u.2:Int)).1.toNat:=by
  unfold Lk.nb;rw[ea,eb]
 obtain⟨g0,g00,-,-,-,-,g5⟩:=G.S.step u.1 u.2 h2 Ci h3;refine⟨h2,Ci,h3,by rw[hn];exact g0,hn,?_,by rw[hn];omega⟩;unfold Dl;rw[if_pos h3,Int.min_eq_left Ci]
theorem GSt.kind (G:GSt a b s m) {u:Nat×Nat} (h:s.lk.reg u):It s.cr (Dl (a:Int) (b:Int) (u.1:Int) (u.2:Int)).1 (Dl (a:Int) (b:Int) (u.1:Int) (u.2:Int)).2.1=decide (Cx s.lk.cr u.1 u.2≠0):=by
 rw[(G.reg h).2.2.2.2.2.1];exact Sv G.pat.kind _ _
theorem Nk {d:Cl} (h:Lx d) (_:d.q≤3) (e:Nat):(Gc d e).ok=true:=by
 unfold Lx at h;have hb:=Ym d.q e;unfold Cl.ok Gc;rw[Eu];dsimp only;omega
theorem GSt.other (G:GSt a b s m) {u:Nat×Nat} (h:s.lk.reg u):s.lk.other u.1 u.2=Da (m.getD u.1 mv0) (Gc (Cp (a:Int) u.1) u.2):=by
 obtain⟨h1,h2,-⟩:=G.reg h;have hc:=Ke G.S.ok (i:=u.1) (by rw[Em];exact h1);have hq:=Fe (a:Int) u.1
 have eb:s.lk.ms=m:=by
  show(Df s.a s.b s.cr s.root).1.1=m;rw[G.both]
 have ea:s.lk.a=(a:Int):=G.sa;unfold Lk.other;rw[eb,ea,Us (Kt hc hq) h2 (Nk hc hq u.2)];dsimp only;obtain⟨e',-,he'⟩:=Nz (m.getD u.1 mv0) (Pf (G.pl.ok u.1 h1)) (Cp (a:Int) u.1) hq u.2 h2
 have hok:(Da (m.getD u.1 mv0) (Gc (Cp (a:Int) u.1) u.2)).ok=true:=by
  rw[he'];exact Nk (G.pl.near u.1 h1) (Eb _ _) e'
 unfold Kq;rw[G.pl.ok u.1 h1,Nk hc hq u.2,Bool.and_self,if_pos rfl];unfold Gp;rw[if_pos hok]
theorem GSt.p0 (G:GSt a b s m) {u:Nat×Nat} (h:s.lk.reg u) (hk:Cx s.lk.cr u.1 u.2=0):s.lk.other u.1 u.2=s.lk.img (s.lk.nb u):=by
 obtain⟨h1,h2,h3,h4,h5,-⟩:=G.reg h;have hc:=G.kind h;rw[hk]at hc;rw[G.other h,G.kimg h4,h5,Py G.S G.pl h1 h2 h3 hc]
theorem GSt.l0 (G:GSt a b s m) {u:Nat×Nat} (h:s.lk.reg u) (hk:Cx s.lk.cr u.1 u.2≠0):s.lk.img (s.lk.nb u)=s.lk.img u.1:=by
 obtain⟨h1,h2,h3,h4,h5,-⟩:=G.reg h;have hc:=G.kind h;rw[decide_eq_true hk]at hc;rw[G.kimg h4,G.kimg h1,h5,So G.S G.pl h1 h2 h3 hc]
theorem GSt.hne (G:GSt a b s m) {u:Nat×Nat} (h:s.lk.reg u):s.lk.img u.1≠s.lk.other u.1 u.2:=by
 obtain⟨h1,h2,h3,-⟩:=G.reg h;obtain⟨e',he2,he'⟩:=Nz (m.getD u.1 mv0) (Pf (G.pl.ok u.1 h1)) (Cp (a:Int) u.1) (Fe _ _) u.2 h2;rw[G.other h,G.kimg h1,he'];exact(Ao4 _ (Eb _ _) e' he2).symm
theorem Gs.lies {s:St} (hg:Gs s) {i:Nat} (hi:i<Cq s.a s.b):(s.l.map (·.c)).Nodup∧i∈atF s.l (s.img i):=by
 have hnd:(s.l.map (·.c)).Nodup:=by
  obtain⟨h1,-,-⟩:=Gj hg.chkS;rw[List.Nodup,List.pairwise_map];refine List.pairwise_iff_getElem.2 λi j hi hj hij=>?_
  have lt:∀d i,i+d+1<s.l.length→∀(h1':i<s.l.length) (h2':i+d+1<s.l.length),Fg s.l[i].c s.l[i+d+1].c<0:=by
   intro d
   induction d with
   |zero=>exact λi h _ _=>To h (h1 (i+1) h)
   |succ d ih=>
    intro i h h1' h2';have a1:=ih i Ci h1' Ci;have a2:Fg s.l[i+d+1].c s.l[i+d+1+1].c<0:=To (i:=i+d+1) h (h1 _ h);rw[Eo]at a1 a2⊢;have:s.l[i+(d+1)+1]=s.l[i+d+1+1]:=rfl;rw[this];omega
  obtain⟨d,rfl⟩:∃d,j=i+d+1:=⟨j-i-1,Ci⟩;have:=lt d i hj hi hj;intro e;rw[e,Eo]at this;omega
 refine⟨hnd,?_⟩;obtain⟨-,h2,h3⟩:=Gj hg.chkS
 have hm:i∈Cw s.l:=zD h2 h3 (λx hx=>by
  obtain⟨y,hy,hxy⟩:=List.mem_flatMap.1 hx;exact(hg.at y hy).2.2 x hxy) hi
 obtain⟨y,hy,hyi⟩:=List.mem_flatMap.1 hm;have h4:=hg.stk;unfold Jv at h4;rw[if_neg (by rw[hg.both];decide),if_neg (by rw[hg.chkS];decide)]at h4
 split at h4
 ·cases h4
 ·rename_i h5
  have:s.img i=y.c:=by
   apply Classical.byContradiction;intro h6;refine h5 (List.any_eq_true.2 ⟨y,hy,List.any_eq_true.2 ⟨i,hyi,?_⟩⟩);exact decide_eq_true h6
  rw[this,Hm hnd hy];exact hyi
end
def Fd.R (f:Fd) (c:Cl):Cl:=Da (ofL f.k f.c) c
def Fd.sd (f:Fd) (c:Cl):Bool:=sdF f.k f.c f.side c
def St.mvd (s:St) (f:Fd):List Stk:=Iw ((Hq (Dc f.k f.c f.side s.l)).map λx=>⟨f.R x.c,x.ls⟩)
theorem Ba4 {s:St} {f:Fd} (h:∀x∈s.l,f.sd x.c=true→(f.R x.c).ok=true):s.mv f=Af (s.mvd f):=by
 have hm:∀x∈Hq (Dc f.k f.c f.side s.l),Gp (ofL f.k f.c) x.c=(f.R x.c,0):=λx hx=>by
  unfold Hq Dc at hx;obtain⟨y,hy,rfl⟩:=List.mem_map.1 hx;obtain⟨h1,h2⟩:=List.mem_filter.1 hy;have:=h y h1 (by unfold Fd.sd sdF;exact h2);unfold Gp;unfold Fd.R at this;dsimp only;rw[if_pos this];rfl
 unfold St.mv Mf St.mvd;rw[if_pos (List.all_eq_true.2 λx hx=>by rw[hm x hx];rfl)]
 congr 2
 exact List.map_congr_left λx hx=>by rw[hm x hx]
section
variable {s:St} {f:Fd}
theorem Fd.invol (hk:1≤f.k∧f.k≤4) {c:Cl} (hq:c.q≤3):f.R (f.R c)=c:=(Ux hk c hq).1
theorem Fd.flip (hk:1≤f.k∧f.k≤4) (hs:f.side≤1) {c:Cl} (hq:c.q≤3):f.sd (f.R c)= !f.sd c:=by
 have h:=(Ux (c:=f.c) hk c hq).2;unfold Fd.sd sdF Fd.R;rw[h];have h1:=Tj f.k f.c c;have h2:f.side=0∨f.side=1:=Ci;rcases h1 with h1|h1<;>rcases h2 with h2|h2<;>rw[h1,h2]<;>rfl
theorem Pl (hn:(s.l.map (·.c)).Nodup) (k c:Int) (sd:Nat):((Dc k c sd s.l).map (·.c)).Nodup:=by
 unfold Dc;exact hn.sublist (List.filter_sublist.map _)
theorem Ur (hk:1≤f.k∧f.k≤4) (hq:∀x∈s.l,x.c.q≤3) (hn:(s.l.map (·.c)).Nodup):((s.mvd f).map (·.c)).Nodup:=by
 unfold St.mvd;rw[((Ei _).map _).nodup_iff,List.map_map];have h1:=Pl hn f.k f.c f.side;unfold Hq;rw[List.map_map,List.Nodup,List.pairwise_map];rw[List.Nodup,List.pairwise_map]at h1;refine h1.imp_of_mem λ{x y} hx hy h e=>h ?_;have hx:=(List.mem_filter.1 hx).1;have hy:=(List.mem_filter.1 hy).1;have e:f.R x.c=f.R y.c:=e;rw[←Fd.invol hk (hq x hx),e,Fd.invol hk (hq y hy)]
theorem wN (hk:1≤f.k∧f.k≤4) (hs:f.side≤1) (hq:∀x∈s.l,x.c.q≤3) (hn:(s.l.map (·.c)).Nodup) {c:Cl} (hc:c.q≤3) (hsd:f.sd c=false):
  atF (s.to f (s.mvd f)).l c=if f.over then atF s.l c++(atF s.l (f.R c)).reverse else (atF s.l (f.R c)).reverse++atF s.l c:=by
 have h1:Dy f.k f.c c=1-f.side:=by
  unfold Fd.sd sdF at hsd;have h2:=Tj f.k f.c c;have h3:¬Dy f.k f.c c=f.side:=by simpa using hsd
  omega
 have h2:Dy f.k f.c (f.R c)=f.side:=by
  have:=(Ux (c:=f.c) hk c hc).2;unfold Fd.R;rw[this,h1];omega
 have e1:atF (Dc f.k f.c (1-f.side) s.l) c=atF s.l c:=by rw[Uc,if_pos h1]
 have e2:atF (s.mvd f) c=(atF s.l (f.R c)).reverse:=by
  have h3:=Ur (s:=s) (f:=f) hk hq hn;unfold St.mvd at h3⊢;rw[eL (Ei _) h3];have h4:c=f.R (f.R c):=(Fd.invol hk hc).symm
  have h5:atF ((Hq (Dc f.k f.c f.side s.l)).map λx=>⟨f.R x.c,x.ls⟩) (f.R (f.R c))=atF (Hq (Dc f.k f.c f.side s.l)) (f.R c):=pK λx hx e=>by
   unfold Hq Dc at hx;obtain⟨y,hy,rfl⟩:=List.mem_map.1 hx;have hy:=(List.mem_filter.1 hy).1;rw[←Fd.invol hk (hq y hy),e,←h4]
  rw[←h4]at h5;rw[h5,pL,Uc,if_pos h2]
 unfold St.to;dsimp only
 cases f.over with
 |true=>rw[if_pos rfl,if_pos rfl,Ua (Pl hn _ _ _) (Ur hk hq hn),e1,e2]
 |false=>rw[if_neg Ct,if_neg Ct,Ua (Ur hk hq hn) (Pl hn _ _ _),e1,e2]
theorem Qe {l:List Stk} (hnd:(Cw l).Nodup) (hn:(l.map (·.c)).Nodup) {i:Nat} {c d:Cl} (h1:i∈atF l c) (h2:i∈atF l d):c=d:=by
 induction l with
 |nil=>simp[Sb]at h1
 |cons x r ih=>
  unfold Cw at hnd;rw[Bf,Bp]at hnd;rw[List.map_cons,List.nodup_cons]at hn;rw[Gf]at h1 h2
  have no:∀e,i∈x.ls→i∈atF r e→False:=λe h3 h4=>by
   by_cases he:e∈r.map (·.c)
   ·obtain⟨y,hy,rfl⟩:=List.mem_map.1 he;rw[Hm hn.2 hy]at h4;exact hnd.2.2 i h3 i (List.mem_flatMap.2 ⟨y,hy,h4⟩) rfl
   ·rw[Ou he]at h4;simp at h4
  by_cases hc:x.c=c
  ·rw[if_pos hc]at h1;by_cases hd:x.c=d
   ·exact hc.symm.trans hd
   ·rw[if_neg hd]at h2;exact absurd h2 (λh=>no d h1 h)
  ·rw[if_neg hc]at h1;by_cases hd:x.c=d
   ·rw[if_pos hd]at h2;exact absurd h1 (λh=>no c h2 h)
   ·rw[if_neg hd]at h2;exact ih hnd.2.1 hn.2 h1 h2
theorem Tz {l:List Stk} (hnd:(Cw l).Nodup) (hn:(l.map (·.c)).Nodup) (c:Cl):(atF l c).Nodup:=by
 by_cases h:c∈l.map (·.c)
 ·obtain⟨x,hx,rfl⟩:=List.mem_map.1 h;rw[Hm hn hx];unfold Cw at hnd;obtain⟨l1,l2,rfl⟩:=List.append_of_mem hx;rw[Bi,Bf,Bp,Bp]at hnd;exact hnd.2.1.1
 ·rw[Ou h];exact List.nodup_nil
theorem Ah9 (hk:1≤f.k∧f.k≤4) (hs:f.side≤1) (hq:∀x∈s.l,x.c.q≤3) (hn:(s.l.map (·.c)).Nodup) (hnd:(Cw s.l).Nodup) {img img':Nat→Cl} {i:Nat} (hi:i∈atF s.l (img i)) (hqi:(img i).q≤3) (him:img' i=if f.sd (img i)then f.R (img i)else img i):
  Mn img img' (λi=>htC s.l (img i) i) (λi=>htC (s.to f (s.mvd f)).l (img' i) i) (λc=>((atF s.l c).length:Int)) f.R f.sd f.over i:=by
 have hp:=Np hi;refine⟨him,Fd.invol hk hqi,Fd.flip hk hs hqi,?_,hp⟩;unfold htC
 cases h:f.sd (img i)with
 |false=>
  rw[h]at him;have e:img' i=img i:=him;rw[e,wN hk hs hq hn hqi h]
  have hni:i∉(atF s.l (f.R (img i))).reverse:=λh2=>by
   have:=Qe hnd hn hi (List.mem_reverse.1 h2);have h3:=Fd.flip (f:=f) hk hs hqi;rw[←this,h]at h3
   cases h3
  cases f.over with
  |true=>rw[if_pos rfl,Uw hi];simp
  |false=>rw[if_neg Ct,Rq hni hi,List.length_reverse];simp
 |true=>
  rw[h]at him;have e:img' i=f.R (img i):=him;have hqr:(f.R (img i)).q≤3:=Eb _ _;have hsr:f.sd (f.R (img i))=false:=by rw[Fd.flip hk hs hqi,h];rfl
  rw[e,wN hk hs hq hn hqr hsr,Fd.invol hk hqi]
  have hni:i∉atF s.l (f.R (img i)):=λh2=>by
   have:=Qe hnd hn hi h2;rw[←this,h]at hsr
   cases hsr
  have hrev:=dT (Tz hnd hn (img i)) hi
  cases f.over with
  |true=>rw[if_pos rfl,Rq hni (List.mem_reverse.2 hi),hrev];simp
  |false=>rw[if_neg Ct,Uw (List.mem_reverse.2 hi),hrev];simp
end
theorem Vx {a b:Int} {u:Nat×Nat} (hu:u.2<3) (h:isU a b u.1 u.2=true):∀{j:Nat},3*u.1+u.2<j→u∈Ff a b j
 |0,hj=>Ci
 |j+1,hj=>by
  unfold Ff;rw[Bl];by_cases h1:3*u.1+u.2<j
  ·exact .inl (Vx hu h h1)
  ·have e1:j/3=u.1:=Ci;have e2:j%3=u.2:=Ci;refine .inr ?_;unfold Oh;rw[e1,e2,if_pos h];simp
theorem tC {l l':List Cr} (h:l.Perm l') (c e:Int):It l c e=It l' c e:=h.any_eq
theorem yN (l l':List Cr) (c e:Int):It (l++l') c e=(It l c e||It l' c e):=List.any_append
theorem yO (L:List (Nat×Nat)) (kf:Nat→Int) (p e:Nat):It (Hg L kf) p e=decide ((p,e)∈L):=by
 unfold It Hg;rw[List.any_map];rw[Bool.eq_iff_iff,List.any_eq_true,decide_eq_true_eq]
 constructor
 ·rintro⟨u,hu,h⟩;simp only[Function.comp,Bool.and_eq_true,decide_eq_true_eq]at h
  have:u=(p,e):=by
   obtain⟨u1,u2⟩:=u;dsimp only at h;rw[Prod.mk.injEq];omega
  rw[←this];exact hu
 ·intro h;exact⟨_,h,Cn⟩
theorem oA {f:Fd} (hs:f.side≤1) (p q:Cl):f.sd p≠f.sd q↔Dy f.k f.c p≠Dy f.k f.c q:=by
 have h1:=Tj f.k f.c p;have h2:=Tj f.k f.c q;have h3:f.side=0∨f.side=1:=Ci;unfold Fd.sd sdF;rcases h1 with h1|h1<;>rcases h2 with h2|h2<;>rcases h3 with h3|h3<;>rw[h1,h2,h3]<;>simp
section
variable {a b:Nat} {s:St} {m:List Mv} {f:Fd}
theorem GSt.passes (G:GSt a b s m) (hs:f.side≤1) {p e:Nat} (hp:p<4*a*b) (he:e≤2) (h0:(nbI (a:Int) (b:Int) (p:Int) (e:Int)).2=0) (hlt:(p:Int)<(nbI (a:Int) (b:Int) (p:Int) (e:Int)).1):
  decide ((p,e)∈Hd s f.k f.c)=((f.sd (imP a m p) != f.sd (imP a m (nbI (a:Int) (b:Int) (p:Int) (e:Int)).1.toNat))&&decide (Cx s.cr p e=0)):=by
 have hU:(p,e)∈Fu s.a s.b:=by
  unfold Fu;refine Vx (by dsimp only;omega) ?_ (by rw[G.cnt];dsimp only;omega);rw[G.sa,G.sb];unfold isU;simp[h0,hlt]
 have hn:=(G.S.step p e hp he h0).1;have i1:=G.img hp;have i2:=G.img hn;unfold St.img at i1 i2;rw[Bool.eq_iff_iff,decide_eq_true_eq];unfold Hd;rw[List.mem_filter];dsimp only;rw[G.sa,G.sb]at i1 i2 hU⊢;rw[i1,i2];simp only[hU,true_and,Bool.and_eq_true,decide_eq_true_eq,bne_iff_ne];rw[oA hs]
theorem GSt.crTo (G:GSt a b s m) (hs:f.side≤1) (mv:List Stk) {i e:Nat} (hi:i<4*a*b) (he:e≤2) (h0:(nbI (a:Int) (b:Int) (i:Int) (e:Int)).2=0):
  It (s.to f mv).cr (Dl (a:Int) (b:Int) (i:Int) (e:Int)).1 (Dl (a:Int) (b:Int) (i:Int) (e:Int)).2.1=
   (It s.cr (Dl (a:Int) (b:Int) (i:Int) (e:Int)).1 (Dl (a:Int) (b:Int) (i:Int) (e:Int)).2.1||(f.sd (imP a m i) != f.sd (imP a m (nbI (a:Int) (b:Int) (i:Int) (e:Int)).1.toNat))):=by
 have low:∀p:Nat,p<4*a*b→(nbI (a:Int) (b:Int) (p:Int) (e:Int)).2=0→(p:Int)<(nbI (a:Int) (b:Int) (p:Int) (e:Int)).1→
   It (s.to f mv).cr (p:Int) (e:Int)=(It s.cr (p:Int) (e:Int)||(f.sd (imP a m p) != f.sd (imP a m (nbI (a:Int) (b:Int) (p:Int) (e:Int)).1.toNat))):=λp hp hp0 hlt=>by
  show It (Jg (s.cr++Hg (Hd s f.k f.c) (s.kf f))) p e=_;rw[tC (Ii _),yN,yO,G.passes hs hp he hp0 hlt,Sv G.pat.kind]
  cases f.sd (imP a m p) != f.sd (imP a m (nbI (a:Int) (b:Int) (p:Int) (e:Int)).1.toNat)<;>simp
 obtain⟨g0,g00,-,-,-,g4,g5⟩:=G.S.step i e hi he h0;unfold Dl;rw[if_pos h0];dsimp only;by_cases hlt:(i:Int)<(nbI (a:Int) (b:Int) (i:Int) (e:Int)).1
 ·rw[Int.min_eq_left Ci];exact low i hi h0 hlt
 ·rw[Int.min_eq_right Ci];obtain⟨q,hq⟩:∃q:Nat,(nbI (a:Int) (b:Int) (i:Int) (e:Int)).1=q:=⟨_,(Int.toNat_of_nonneg g00).symm⟩;rw[hq]at g0 g4 g5 hlt⊢;have h:=low q Ci (by rw[g4]) (by rw[g4];dsimp only;omega);rw[g4]at h;dsimp only at h;simp only[Int.toNat_natCast]at h⊢;rw[h]
  congr 1
  cases f.sd (imP a m q)<;>cases f.sd (imP a m i)<;>rfl
end
theorem aS {l:List Cr} (ha:l.Pairwise λr q=>Gd r.c r.e q.c q.e<0) {r:Cr} (hr:r∈l):Cx l r.c r.e=r.k:=by
 unfold Cx
 cases hf:l.find? λx=>decide (x.c=r.c)&&decide (x.e=r.e)with
 |none=>
  rw[List.find?_eq_none]at hf;have:=hf r hr;simp at this
 |some x=>
  have h1:=List.mem_of_find?_eq_some hf;have h2:=List.find?_some hf;simp only[Bool.and_eq_true,decide_eq_true_eq]at h2;have:x=r:=cY (Tp ha) x h1 r hr (by unfold crU;rw[h2.1,h2.2]);rw[this]
theorem yR {l:List Cr} {c e:Int} (h:Cx l c e≠0):∃r∈l,r.c=c∧r.e=e∧r.k=Cx l c e:=by
 unfold Cx at h⊢
 cases hf:l.find? λx=>decide (x.c=c)&&decide (x.e=e)with
 |none=>rw[hf]at h;exact absurd rfl h
 |some x=>
  have h2:=List.find?_some hf;simp only[Bool.and_eq_true,decide_eq_true_eq]at h2;exact⟨x,List.mem_of_find?_eq_some hf,h2.1,h2.2,rfl⟩
theorem Ai2:∀(p:List (Nat×Nat)) (n:Nat),(p.map (·.1)).Nodup→∀i v,(i,v)∈p→i<n→(Si n p).getD i 0=v:=by
 have len:∀(p:List (Nat×Nat)) (h:List Nat),(p.foldl (λh q=>h.set q.1 q.2) h).length=h.length:=by
  intro p
  induction p with
  |nil=>intro h;rfl
  |cons q r ih=>intro h;rw[List.foldl_cons,ih,List.length_set]
 have key:∀(p:List (Nat×Nat)) (h:List Nat),(p.map (·.1)).Nodup→(∀i v,(i,v)∈p→i<h.length→(p.foldl (λh q=>h.set q.1 q.2) h).getD i 0=v)∧∀i,i∉p.map (·.1)→(p.foldl (λh q=>h.set q.1 q.2) h).getD i 0=h.getD i 0:=by
  intro p
  induction p with
  |nil=>intro h _;exact⟨λi v hi=>by simp at hi,λi _=>rfl⟩
  |cons q r ih=>
   intro h hn;rw[List.map_cons,List.nodup_cons]at hn;obtain⟨h1,h2⟩:=ih (h.set q.1 q.2) hn.2;refine⟨λi v hi hl=>?_,λi hi=>?_⟩
   ·rw[List.foldl_cons];rcases Bk.1 hi with rfl|hi
    ·rw[h2 _ hn.1];simp[List.getD,hl]
    ·exact h1 i v hi (by simpa using hl)
   ·rw[List.map_cons,Bk,not_or]at hi;rw[List.foldl_cons,h2 i hi.2];simp only[List.getD,List.getElem?_set_ne (Ne.symm hi.1)]
 exact λp n hn i v hi hl=>(key p (Ba n 0) hn).1 i v hi (by simpa using hl)
theorem Aa2 {l:List Nat} (hn:l.Nodup) {i:Nat} (h:i∈l):(i,(Gh l i).toNat)∈l.zipIdx:=by
 obtain⟨j,hj,rfl⟩:=Be.1 h
 have e:Gh l l[j]=j:=qT hj rfl λk hk hkj e=>by
  have:=(List.getElem_inj hn).1 e;omega
 rw[e,Int.toNat_natCast];exact List.mem_zipIdx_iff_getElem?.2 (by simp[hj])
theorem Aq3 {l:List Stk} {n i:Nat} (hnd:(Cw l).Nodup) (hn:(l.map (·.c)).Nodup) (hi:i<n) {c:Cl} (h:i∈atF l c):((Si n (Lb l)).getD i 0:Int)=htC l c i:=by
 have hc:c∈l.map (·.c):=by
  apply Classical.byContradiction;intro h2;rw[Ou h2]at h;simp at h
 obtain⟨x,hx,rfl⟩:=List.mem_map.1 hc;rw[Hm hn hx]at h
 have e1:(Lb l).map (·.1)=Cw l:=by
  unfold Lb Cw;rw[List.map_flatMap]
  congr 1
  funext x
  simp
 have hxn:x.ls.Nodup:=by
  have:=Tz hnd hn x.c
  rwa [Hm hn hx]at this
 have h1:(i,(Gh x.ls i).toNat)∈Lb l:=List.mem_flatMap.2 ⟨x,hx,Aa2 hxn h⟩;rw[Ai2 _ n (by rw[e1];exact hnd) i _ h1 hi];unfold htC;rw[Hm hn hx];have:=(Np h).1;omega
def cK (kd:Int) (upHi:Bool):Prop:=kd=3∨kd=if upHi then 1 else 2
theorem Af5 (mv:Mv) (hm:mv.t≤7) (k c:Int):decide (4≤(thn mv (ofL k c)).t)= !decide (4≤mv.t)∧decide (4≤(thn (ofL k c) mv).t)= !decide (4≤mv.t):=by
 have key:∀t,t<8→∀u,u∈([4,5,6,7]:List Nat)→decide (4≤Gg (Du (mat t) (mat u)))= !decide (4≤t)∧decide (4≤Gg (Du (mat u) (mat t)))= !decide (4≤t):=by decide+kernel
 have hu:(ofL k c).t∈([4,5,6,7]:List Nat):=by
  unfold ofL
  repeat' split
  all_goals simp
 exact key mv.t Ci _ hu
def upP (m:List Mv) (i:Nat):Bool:= !decide (4≤(m.getD i mv0).t)
theorem Ad1 {d:Cl} (hq:d.q≤3) {e e':Nat} (he:e≤2) (he':e'≤2) (h:Gc d e=Gc d e'):e=e':=by
 obtain⟨x,y,q⟩:=d;dsimp only at hq;rcases Wg hq with rfl|rfl|rfl|rfl<;>rcases dL he with rfl|rfl|rfl<;>rcases dL he' with rfl|rfl|rfl<;>first|rfl|(simp[Gc,nxt]at h)
section
variable {a b:Nat} {s:St} {m:List Mv}
def Lk.hi (k:Lk) (u:Nat×Nat):Nat:=if k.hs.getD u.1 0<k.hs.getD (k.nb u) 0 then k.nb u else u.1
theorem GSt.crease (G:GSt a b s m) {u:Nat×Nat} (h:s.lk.reg u) (B:Cl):Ia s.a s.b (s.lk.le B u)=u:=by
 obtain⟨h1,h2,h3,h4,h5,-,h7⟩:=G.reg h
 have hnn:(nbI (a:Int) (b:Int) (u.1:Int) (u.2:Int)).1=(s.lk.nb u:Int):=by
  rw[h5];exact(Int.toNat_of_nonneg (G.S.step u.1 u.2 h1 h2 h3).2.1).symm
 have uni:∀e:Nat,e≤2→nbI (a:Int) (b:Int) (u.1:Int) (e:Int)=((s.lk.nb u:Int),0)→e=u.2:=λe he hh=>by
  have g1:=(G.S.step u.1 u.2 h1 h2 h3).2.2.1;have g2:=(G.S.step u.1 e h1 he (by rw[hh])).2.2.1;rw[hnn]at g1;rw[hh]at g2;exact Ad1 (Fe _ _) he h2 (g2.symm.trans g1)
 have he2:nbI (a:Int) (b:Int) (u.1:Int) (u.2:Int)=((s.lk.nb u:Int),0):=Prod.ext hnn h3
 have mn:min (s.lk.le B u).2.1 (s.lk.le B u).2.2=u.1∧max (s.lk.le B u).2.1 (s.lk.le B u).2.2=s.lk.nb u:=by
  unfold Lk.le
  split<;>(dsimp only;omega)
 have hf:(([0,1,2]:List Nat).find? λ(e:Nat)=>decide (nbI (a:Int) (b:Int) ((u.1:Nat):Int) (e:Int)=(((s.lk.nb u:Nat):Int),(0:Int))))=Af u.2:=by
  obtain⟨p,e⟩:=u;dsimp only at h2 he2 uni⊢;rcases dL h2 with rfl|rfl|rfl
  ·rw[List.find?_cons,decide_eq_true he2]
  ·have n0:¬nbI (a:Int) (b:Int) (p:Int) ((0:Nat):Int)=((s.lk.nb (p,1):Int),0):=λh=>by cases uni 0 Ci h
   rw[List.find?_cons,decide_eq_false n0,List.find?_cons,decide_eq_true he2]
  ·have n0:¬nbI (a:Int) (b:Int) (p:Int) ((0:Nat):Int)=((s.lk.nb (p,2):Int),0):=λh=>by cases uni 0 Ci h
   have n1:¬nbI (a:Int) (b:Int) (p:Int) ((1:Nat):Int)=((s.lk.nb (p,2):Int),0):=λh=>by cases uni 1 Ci h
   rw[List.find?_cons,decide_eq_false n0,List.find?_cons,decide_eq_false n1,List.find?_cons,decide_eq_true he2]
 unfold Ia;rw[mn.1,mn.2,G.sa,G.sb,hf]
theorem GSt.ups (G:GSt a b s m) {i:Nat} (hi:i<4*a*b):(upF s.a s.b s.cr s.root).1.getD i false=upP m i:=by
 unfold upF;rw[G.both];dsimp only;rw[if_neg Ct];dsimp only;have hl:=G.pl.len;have hok:=G.pl.ok i hi;rw[List.getD_eq_getElem?_getD,List.getElem?_map];unfold upP;rw[List.getD_eq_getElem?_getD]at hok⊢;rw[Aw (show i<m.length by omega)]at hok⊢;simp only[Option.map_some,Option.getD_some]at hok⊢;unfold Hy;rw[hok,Bool.true_and]
def Aq0 (s:St) (m:List Mv):Prop:=∀u,s.lk.reg u→Cx s.cr u.1 u.2≠0→cK (Cx s.cr u.1 u.2) (upP m (s.lk.hi u))
theorem GSt.wrong (G:GSt a b s m) {u:Nat×Nat} (h:s.lk.reg u) (B:Cl):Eh s.a s.b s.cr (upF s.a s.b s.cr s.root).1 (s.lk.le B u)=false↔cK (Cx s.cr u.1 u.2) (upP m (s.lk.hi u)):=by
 obtain⟨h1,h2,h3,h4,h5,-,h7⟩:=G.reg h
 have hh:(s.lk.le B u).2.2=s.lk.hi u:=by
  unfold Lk.le Lk.hi
  split<;>rfl
 have hlt:s.lk.hi u<4*a*b:=by
  unfold Lk.hi
  split<;>assumption
 unfold Eh aT cK;rw[G.crease h B,hh,G.ups hlt,Bool.and_eq_false_iff,decide_eq_false_iff_not,decide_eq_false_iff_not,Classical.not_not,Classical.not_not]
theorem GSt.bends_iff (G:GSt a b s m):(s.lk.seams.any λx=>x.ls.any (Eh s.a s.b s.cr (upF s.a s.b s.cr s.root).1))=false↔Aq0 s m:=by
 rw[List.any_eq_false]
 constructor
 ·intro h u hu hk;obtain⟨t,ht,-,-,h3⟩:=Za s.lk _ u hu.1 (Aa7 hu) hu.2.2;have h4:=h t ht;rw[Bool.not_eq_true,List.any_eq_false]at h4;have h5:=h4 _ (h3 hk);rw[Bool.not_eq_true]at h5;exact(G.wrong hu t.b).1 h5
 ·intro h t ht;rw[Bool.not_eq_true,List.any_eq_false];intro x hx;obtain⟨u,a1,a2,a3,a4,a5,rfl⟩:=(Rv s.lk _ t ht).2 x hx;have hu:s.lk.reg u:=⟨a1,Ci,a4⟩;rw[Bool.not_eq_true];exact(G.wrong hu t.b).2 (h u hu a5)
end
theorem Xu {l l':List Stk} (h:l.Perm l'):(Cw l).Perm (Cw l'):=by
 unfold Cw;exact h.flatMap_right _
theorem fW (x:Stk):∀l:List Stk,(Cw (Il x l)).Perm (Cw l++x.ls)
 |[]=>by unfold Il Cw;simp
 |y::r=>by
  unfold Il
  split
  ·unfold Cw;rw[Bf,Bf];dsimp only;rw[Bj,Bj];exact List.Perm.append_left _ List.perm_append_comm
  ·have ih:=fW x r;unfold Cw at ih⊢;rw[Bf,Bf,Bj];exact List.Perm.append_left _ ih
theorem fX:∀(L o:List Stk),(Cw (L.foldl (λo x=>if x.ls.isEmpty then o else Il x o) o)).Perm (Cw o++Cw L)
 |[],o=>by unfold Cw;simp
 |x::r,o=>by
  rw[List.foldl_cons];refine(fX r _).trans ?_;have e:Cw (x::r)=x.ls++Cw r:=by unfold Cw;rw[Bf]
  rw[e,←Bj];refine List.Perm.append_right _ ?_;by_cases he:x.ls.isEmpty=true
  ·rw[if_pos he];have h0:x.ls=[]:=by simpa using he
   rw[h0,List.append_nil]
  ·rw[if_neg he];exact fW x o
theorem Xt (l h:List Stk):(Cw (Ev l h)).Perm (Cw l++Cw h):=by
 rw[Tf];refine(Xu (Ei _)).trans ?_;unfold Gk;refine(fX _ _).trans ?_;unfold Cw;simp
theorem Ai6 (l:List Stk) (g:Cl→Cl):(Cw ((Hq l).map λx=>⟨g x.c,x.ls⟩)).Perm (Cw l):=by
 induction l with
 |nil=>exact List.Perm.refl _
 |cons x r ih=>
  unfold Cw Hq at ih⊢;rw[List.map_cons,List.map_cons,Bf,Bf];exact(List.reverse_perm _).append ih
theorem sV (k c:Int) (sd:Nat) (hs:sd≤1) (l:List Stk):(Cw (Dc k c sd l)++Cw (Dc k c (1-sd) l)).Perm (Cw l):=by
 have e:Dc k c (1-sd) l=l.filter λx=> !decide (Dy k c x.c=sd):=by
  unfold Dc
  congr 1
  funext x
  have:=Tj k c x.c;by_cases h:Dy k c x.c=sd
  ·rw[decide_eq_true h,decide_eq_false Ci];rfl
  ·rw[decide_eq_false h,decide_eq_true Ci];rfl
 rw[e];have hp:=List.filter_append_perm (λx:Stk=>decide (Dy k c x.c=sd)) l;have:=Xu hp;unfold Cw at this⊢;rw[Bi]at this;exact this
section
variable {s:St} {f:Fd}
theorem lS (hs:f.side≤1):(Cw (s.to f (s.mvd f)).l).Perm (Cw s.l):=by
 have h1:(Cw (s.mvd f)).Perm (Cw (Dc f.k f.c f.side s.l)):=by
  unfold St.mvd;exact(Xu (Ei _)).trans (Ai6 _ _)
 have h2:=sV f.k f.c f.side hs s.l;unfold St.to;dsimp only
 cases f.over with
 |true=>
  rw[if_pos rfl];exact((Xt _ _).trans (h1.append_left _)).trans (List.perm_append_comm.trans h2)
 |false=>
  rw[if_neg Ct];exact((Xt _ _).trans (h1.append_right _)).trans h2
theorem wY (hk:1≤f.k∧f.k≤4) (hs:f.side≤1) (hq:∀x∈s.l,x.c.q≤3):∀x∈(s.to f (s.mvd f)).l,x.c.q≤3∧f.sd x.c=false:=by
 have h1:∀x∈Dc f.k f.c (1-f.side) s.l,x.c.q≤3∧f.sd x.c=false:=λx hx=>by
  unfold Dc at hx;obtain⟨h1,h2⟩:=List.mem_filter.1 hx;have h2:Dy f.k f.c x.c=1-f.side:=by simpa using h2
  refine⟨hq x h1,?_⟩;unfold Fd.sd sdF;rw[h2];exact decide_eq_false Ci
 have h2:∀x∈s.mvd f,x.c.q≤3∧f.sd x.c=false:=λx hx=>by
  unfold St.mvd at hx;have hx:=(Ei _).mem_iff.1 hx;obtain⟨y,hy,rfl⟩:=List.mem_map.1 hx;unfold Hq Dc at hy;obtain⟨z,hz,rfl⟩:=List.mem_map.1 hy;obtain⟨h3,h4⟩:=List.mem_filter.1 hz;refine⟨Eb _ _,?_⟩;dsimp only;rw[Fd.flip hk hs (hq z h3)];have:f.sd z.c=true:=by unfold Fd.sd sdF;exact h4
  rw[this];rfl
 have go:∀l h:List Stk,(∀x∈l,x.c.q≤3∧f.sd x.c=false)→(∀x∈h,x.c.q≤3∧f.sd x.c=false)→∀x∈Ev l h,x.c.q≤3∧f.sd x.c=false:=λl h hl hh x hx=>by
  rw[Tf]at hx;have hx:=(Ei _).mem_iff.1 hx;exact Ow (l++h) (λc=>c.q≤3∧f.sd c=false) (λy hy=>(Bl.1 hy).elim (hl y) (hh y)) x hx
 unfold St.to;dsimp only
 split
 ·exact go _ _ h1 h2
 ·exact go _ _ h2 h1
theorem Vr (l h:List Stk):((Ev l h).map (·.c)).Nodup∧(∀x∈Ev l h,x.ls≠[])∧(Ev l h).Pairwise λp q=>Fg p.c q.c<0:=by
 rw[Tf];have hn:((Iw (Gk (l++h))).map (·.c)).Nodup:=((Ei _).map _).nodup_iff.2 (Pd _);refine⟨hn,λx hx=>gX _ x ((Ei _).mem_iff.1 hx),?_⟩;have h1:=jJ (Gk (l++h));rw[List.Nodup,List.pairwise_map]at hn;refine(h1.and hn).imp λ{p q} hh=>?_;obtain⟨h2,h3⟩:=hh;rw[Eo]at h2⊢
 have:¬(p.c.x=q.c.x∧p.c.y=q.c.y∧p.c.q=q.c.q):=λe=>h3 (by
  obtain⟨⟨px,py,pq⟩,pl⟩:=p;obtain⟨⟨qx,qy,qq⟩,ql⟩:=q;dsimp only at e⊢;rw[e.1,e.2.1,e.2.2])
 omega
theorem bY (mv:List Stk):((s.to f mv).l.map (·.c)).Nodup∧(∀x∈(s.to f mv).l,x.ls≠[])∧(s.to f mv).l.Pairwise λp q=>Fg p.c q.c<0:=by
 unfold St.to;dsimp only
 split<;>exact Vr _ _
theorem Xc {n:Nat} {l:List Stk} (h1:∀x∈l,x.c.ok=true∧x.ls≠[]∧∀i∈x.ls,i<n) (h2:l.Pairwise λp q=>Fg p.c q.c<0) (h3:(Cw l).Nodup) (h4:n≤(Cw l).length):chkS n l=0:=by
 have hb:(List.range l.length).any (Ft n l)=false:=by
  rw[List.any_eq_false];intro i hi;have hi:=List.mem_range.1 hi;rw[Bool.not_eq_true];obtain⟨g1,g2,g3⟩:=h1 l[i] (Ay hi);unfold Ft;rw[Aw hi];dsimp only;have g4:l[i].ls.isEmpty=false:=by simpa using g2
  have g5:(l[i].ls.any λid=>decide (n≤id))=false:=by
   rw[List.any_eq_false];intro x hx;have:=g3 x hx;simp;omega
  rw[g1,g4,g5]
  cases i with
  |zero=>rfl
  |succ j=>
   dsimp only;rw[Aw (show j<l.length by omega)];dsimp only;have:=List.pairwise_iff_getElem.1 h2 j (j+1) Ci hi Ci;rw[decide_eq_false Ci];rfl
 unfold chkS;rw[hb,if_neg Ct,if_neg (by simpa using h3),if_neg Ci]
end
structure Hl (a b:Nat) (m:List Mv) (f:Fd):Prop where
 line:okL f.k f.c=true
 side:f.side≤1
 zero:f.sd (imP a m 0)=false
 near:∀i,i<4*a*b→Lx (if f.sd (imP a m i)then f.R (imP a m i)else imP a m i)
theorem aJ {s:St} (h:s.chk=0):Jv s.a s.b s.cr s.root s.l=0∧s.lk.seams.any (Fh s.l)=false∧(s.lk.seams.any λx=>x.ls.any (Eh s.a s.b s.cr (upF s.a s.b s.cr s.root).1))=false:=by
 unfold St.chk at h
 split at h
 ·contradiction
 ·rename_i h0
  split at h
  ·cases h
  ·rename_i h1
   split at h
   ·cases h
   ·rename_i h2;exact⟨Classical.not_not.1 h0,Bool.eq_false_iff.2 h1,Bool.eq_false_iff.2 h2⟩
theorem aI {s:St} (h0:Jv s.a s.b s.cr s.root s.l=0) (h1:s.lk.seams.any (Fh s.l)=false) (h2:(s.lk.seams.any λx=>x.ls.any (Eh s.a s.b s.cr (upF s.a s.b s.cr s.root).1))=false):s.chk=0:=by
 unfold St.chk;unfold St.lk at h1 h2;rw[if_neg (by rw[h0];decide),if_neg (by rw[h1];decide),if_neg (by rw[h2];decide)]
section
variable {a b:Nat} {s:St} {m:List Mv} {f:Fd}
theorem GSt.pos (G:GSt a b s m):0<4*a*b:=by
 have:=Ho G.S.ok
 have h1:1≤Cq (a:Int) (b:Int):=by
  unfold Cq;rw[show 4*(a:Int)*b=4*((a:Int)*b)from Int.mul_assoc ..];omega
 rw[Em]at h1;omega
theorem Hl.k (F:Hl a b m f):1≤f.k∧f.k≤4:=by
 have:=Ic.1 F.line;omega
theorem GSt.rt (G:GSt a b s m) (F:Hl a b m f):s.rt f=(s.root,0):=by
 have h:=F.zero;unfold Fd.sd sdF at h;unfold St.rt;rw[G.img G.pos,if_neg (by simpa using h)]
theorem GSt.to (G:GSt a b s m) (F:Hl a b m f) (mv:List Stk):GSt a b (s.to f mv) (plF a b f.k f.c f.side m) where
 sa:=G.sa
 sb:=G.sb
 S:=G.S
 pat:=gY G.pat f mv
 root:=by
  show(s.rt f).1=mv0;rw[G.rt F];exact G.root
 pl:=nG G.S G.pl F.line F.zero (λi e hi he h0=>G.crTo F.side mv hi he h0) F.near
theorem GSt.imgTo (G:GSt a b s m) (F:Hl a b m f) (mv:List Stk) {i:Nat} (hi:i<4*a*b):(s.to f mv).lk.img i=if f.sd (s.lk.img i)then f.R (s.lk.img i)else s.lk.img i:=by
 rw[(G.to F mv).kimg hi,G.kimg hi];exact Sl hi (G.pl.ok i hi)
theorem GSt.q (G:GSt a b s m) {i:Nat} (hi:i<4*a*b):(s.lk.img i).q≤3:=by
 rw[G.kimg hi];exact Eb _ _
theorem Gs.cq (hg:Gs s):∀x∈s.l,x.c.q≤3:=λx hx=>by
 have:=(hg.at x hx).1;unfold Cl.ok at this;rw[Eu]at this;omega
theorem GSt.nc2 (G:GSt a b s m) (hg:Gs s):NC2 s.lk.reg s.lk.nb (λu=>decide (Cx s.lk.cr u.1 u.2≠0)) s.lk.img (λu=>s.lk.other u.1 u.2) (λi=>htC s.l (s.lk.img i) i):=
 Ba5 (λ_ hu h=>G.p0 hu h) (λ_ hu h=>G.l0 hu h) (λ_ hu=>G.hne hu) ((Xh λ_ hu=>G.hne hu).1 (aJ hg.chk).2.1)
theorem GSt.fat (G:GSt a b s m) (hg:Gs s) (F:Hl a b m f) {i:Nat} (hi:i<4*a*b):Mn s.lk.img (s.to f (s.mvd f)).lk.img (λi=>htC s.l (s.lk.img i) i) (λi=>htC (s.to f (s.mvd f)).l ((s.to f (s.mvd f)).lk.img i) i) (λc=>((atF s.l c).length:Int)) f.R f.sd f.over i:=by
 obtain⟨hn,hm⟩:=hg.lies (i:=i) (by rw[G.cnt];exact hi);exact Ah9 F.k F.side hg.cq hn (Gj hg.chkS).2.1 hm (G.q hi) (G.imgTo F _ hi)
theorem GSt.kindTo (G:GSt a b s m) (F:Hl a b m f) (mv:List Stk) {u:Nat×Nat} (hu:s.lk.reg u):decide (Cx (s.to f mv).lk.cr u.1 u.2≠0)=(decide (Cx s.lk.cr u.1 u.2≠0)||(f.sd (s.lk.img u.1) != f.sd (s.lk.img (s.lk.nb u)))):=by
 obtain⟨h1,h2,h3,h4,h5,h6,-⟩:=G.reg hu;have h:=G.crTo F.side mv h1 h2 h3;have hk:=G.kind hu;have hk':=(G.to F mv).kind (u:=u) hu;rw[hk,hk']at h;rw[h,G.kimg h1,G.kimg h4,h5]
theorem GSt.nc2To (G:GSt a b s m) (hg:Gs s) (F:Hl a b m f):NC2 s.lk.reg s.lk.nb (λu=>decide (Cx (s.to f (s.mvd f)).lk.cr u.1 u.2≠0)) (s.to f (s.mvd f)).lk.img (λu=>(s.to f (s.mvd f)).lk.other u.1 u.2) (λi=>htC (s.to f (s.mvd f)).l ((s.to f (s.mvd f)).lk.img i) i):=by
 have oq:∀u,s.lk.reg u→(s.lk.other u.1 u.2).q≤3:=λu hu=>by
  rw[G.other hu];exact Eb _ _
 refine zN (len:=λc=>((atF s.l c).length:Int)) (R:=f.R) (sd:=f.sd) (over:=f.over) (G.nc2 hg) (λu hu=>?_) (λu hu h=>?_) (λu hu h=>?_) (λu hu=>?_) (λu hu=>?_) (λu hu=>?_) (λu hu h0 hs=>?_)
 ·have:=G.reg hu;exact⟨G.fat hg F this.1,G.fat hg F this.2.2.2.1⟩
 ·exact G.p0 hu (Classical.not_not.1 (by simpa using h))
 ·exact G.l0 hu (by simpa using h)
 ·obtain⟨h1,h2,h3,-⟩:=G.reg hu;rw[G.other hu,(G.to F (s.mvd f)).other (u:=u) hu,G.kimg h1,Lz h1];show Da (if f.sd (imP a m u.1)then _ else _) _=_
  split
  ·rw[Uo _ _ (Pf (G.pl.ok u.1 h1)) (Qx _ _) _ (by
    have:=(G.S.step u.1 u.2 h1 h2 h3).2.2.1;rw[←this];exact Fe _ _)]
   rfl
  ·rfl
 ·exact Fd.invol F.k (oq u hu)
 ·exact G.kindTo F _ hu
 ·obtain⟨h1,h2,h3,h4,h5,-⟩:=G.reg hu;have hk0:Cx s.lk.cr u.1 u.2=0:=Classical.not_not.1 (by simpa using h0);have hc:=G.kind hu;rw[hk0]at hc;have hnx:=Py G.S G.pl h1 h2 h3 hc;obtain⟨e',he2,he'⟩:=Nz (m.getD u.1 mv0) (Pf (G.pl.ok u.1 h1)) (Cp (a:Int) u.1) (Fe _ _) u.2 h2;rw[G.kimg h1,G.kimg h4,h5]at hs⊢;rw[hnx,he']at hs⊢;have hd:=(oA F.side _ _).1 hs;have hln:=Um F.k (imP a m u.1) (Eb _ _) e' he2 hd;have hr:=(Uy (imP a m u.1) (Eb _ _) e' he2).2;rw[hln]at hr;exact hr
end
section
variable {a b:Nat} {s:St} {m:List Mv} {f:Fd}
theorem rM {i:Nat} (G:GSt a b s m) (hi:i<4*a*b):upP (plF a b f.k f.c f.side m) i=if f.sd (s.lk.img i)then !upP m i else upP m i:=by
 unfold upP;rw[Lz hi,G.kimg hi];show(!decide (4≤(if f.sd (imP a m i)then _ else _:Mv).t))=_
 split
 ·rw[(Af5 _ (Pf (G.pl.ok i hi)) _ _).1]
 ·rfl
theorem Af2 (G:GSt a b s m) {u:Nat×Nat} (hu:s.lk.reg u):upP m (s.lk.nb u)=if Cx s.lk.cr u.1 u.2≠0 then !upP m u.1 else upP m u.1:=by
 obtain⟨h1,h2,h3,h4,h5,-⟩:=G.reg hu;have hr:=G.pl.rel u.1 u.2 h1 h2 h3;rw[←h5,G.kind hu]at hr;unfold upP;rw[hr];by_cases hk:Cx s.lk.cr u.1 u.2≠0
 ·rw[if_pos (by simpa using hk),if_pos hk,(Af5 _ (Pf (G.pl.ok u.1 h1)) _ _).2]
 ·rw[if_neg (by simpa using hk),if_neg hk]
theorem GSt.lo (G:GSt a b s m) (hg:Gs s) (F:Hl a b m f) {i:Nat} (hi:i<4*a*b):0≤htC (s.to f (s.mvd f)).l ((s.to f (s.mvd f)).lk.img i) i:=by
 have FA:=G.fat hg F hi;have l0:∀c,(0:Int)≤((atF s.l c).length:Int):=λc=>Int.natCast_nonneg _
 cases h:f.sd (s.lk.img i)with
 |false=>
  obtain⟨-,-,h2,h3,-⟩:=FA.stay h;have:=l0 (f.R ((s.to f (s.mvd f)).lk.img i));rw[h2]
  split<;>omega
 |true=>
  obtain⟨-,-,-,h2,h3,h4⟩:=FA.moved h;have:=l0 ((s.to f (s.mvd f)).lk.img i);rw[h2]
  split<;>omega
theorem GSt.memTo (G:GSt a b s m) (hg:Gs s) (F:Hl a b m f) {i:Nat} (hi:i<4*a*b):i∈atF (s.to f (s.mvd f)).l ((s.to f (s.mvd f)).lk.img i):=iM.1 (G.lo hg F hi)
theorem GSt.idsTo (hg:Gs s) (F:Hl a b m f):(Cw (s.to f (s.mvd f)).l).Nodup:=(lS F.side).nodup_iff.2 (Gj hg.chkS).2.1
theorem GSt.hsTo (G:GSt a b s m) (hg:Gs s) (F:Hl a b m f) {i:Nat} (hi:i<4*a*b):((s.to f (s.mvd f)).lk.hs.getD i 0:Int)=htC (s.to f (s.mvd f)).l ((s.to f (s.mvd f)).lk.img i) i:=
 Aq3 (GSt.idsTo hg F) (bY _).1 (by rw[(G.to F (s.mvd f)).cnt];exact hi) (G.memTo hg F hi)
theorem GSt.hs (G:GSt a b s m) (hg:Gs s) {i:Nat} (hi:i<4*a*b):(s.lk.hs.getD i 0:Int)=htC s.l (s.lk.img i) i:=by
 obtain⟨hn,hm⟩:=hg.lies (i:=i) (by rw[G.cnt];exact hi);exact Aq3 (Gj hg.chkS).2.1 hn (by rw[G.cnt];exact hi) hm
theorem wR (G:GSt a b s m) (hg:Gs s) (F:Hl a b m f):Aq0 (s.to f (s.mvd f)) (plF a b f.k f.c f.side m):=by
 have hb:=G.bends_iff.1 (aJ hg.chk).2.2;have G':=G.to F (s.mvd f);intro u hu' hk';have hu:s.lk.reg u:=hu';obtain⟨h1,h2,h3,h4,h5,h6,h7⟩:=G.reg hu;have F1:=G.fat hg F h1;have F2:=G.fat hg F h4;have e1:=G.hsTo hg F h1;have e2:=G.hsTo hg F h4;have u1:=rM (f:=f) G h1;have u2:=rM (f:=f) G h4;have uc:=Af2 G hu;have nb':(s.to f (s.mvd f)).lk.nb u=s.lk.nb u:=rfl;have hkt:=G.kindTo F (s.mvd f) hu;have hpos:∀c,(0:Int)≤((atF s.l c).length:Int):=λc=>Int.natCast_nonneg _;unfold Lk.hi;rw[nb'];by_cases hk:Cx s.cr u.1 u.2≠0
 ·have hk0:Cx s.lk.cr u.1 u.2≠0:=hk;obtain⟨r,hr,r1,r2,r3⟩:=yR hk;have hrt:r∈(s.to f (s.mvd f)).cr:=(Ii _).mem_iff.2 (List.mem_append_left _ hr)
  have ek:Cx (s.to f (s.mvd f)).cr u.1 u.2=Cx s.cr u.1 u.2:=by
   rw[←r3,←r1,←r2];exact aS G'.pat.asc hrt
  rw[ek];have B:=hb u hu hk;unfold Lk.hi at B;have im:=G.l0 hu hk0;rw[if_pos hk0]at uc;have g1:=G.hs hg h1;have g2:=G.hs hg h4;rw[im]at g2
  have hne:htC s.l (s.lk.img u.1) u.1≠htC s.l (s.lk.img u.1) (s.lk.nb u):=λe=>by
   obtain⟨hn,hm⟩:=hg.lies (i:=u.1) (by rw[G.cnt];exact h1);have:=Aa0 hm e;omega
  cases hs:f.sd (s.lk.img u.1)with
  |false=>
   have hs2:f.sd (s.lk.img (s.lk.nb u))=false:=by rw[im];exact hs
   obtain⟨a1,-,a2,-⟩:=F1.stay hs;obtain⟨b1,-,b2,-⟩:=F2.stay hs2;rw[b1,im]at b2 e2;rw[a1]at a2 e1;rw[hs]at u1;rw[hs2]at u2;have ord:(s.to f (s.mvd f)).lk.hs.getD u.1 0<(s.to f (s.mvd f)).lk.hs.getD (s.lk.nb u) 0↔s.lk.hs.getD u.1 0<s.lk.hs.getD (s.lk.nb u) 0:=Ci;by_cases ho:s.lk.hs.getD u.1 0<s.lk.hs.getD (s.lk.nb u) 0
   ·rw[if_pos ho]at B;rw[if_pos (ord.2 ho),u2];exact B
   ·rw[if_neg ho]at B;rw[if_neg (λh=>ho (ord.1 h)),u1];exact B
  |true=>
   have hs2:f.sd (s.lk.img (s.lk.nb u))=true:=by rw[im];exact hs
   obtain⟨a1,-,-,a2,-⟩:=F1.moved hs;obtain⟨b1,-,-,b2,-⟩:=F2.moved hs2;rw[b1,im]at b2 e2;rw[a1]at a2 e1;rw[hs]at u1;rw[hs2]at u2;have ord:(s.to f (s.mvd f)).lk.hs.getD u.1 0<(s.to f (s.mvd f)).lk.hs.getD (s.lk.nb u) 0↔¬s.lk.hs.getD u.1 0<s.lk.hs.getD (s.lk.nb u) 0:=Ci;by_cases ho:s.lk.hs.getD u.1 0<s.lk.hs.getD (s.lk.nb u) 0
   ·rw[if_pos ho,uc]at B;rw[if_neg (λh=>ord.1 h ho),u1];exact B
   ·rw[if_neg ho]at B;rw[if_pos (ord.2 ho),u2,uc];simpa using B
 ·have hk0:Cx s.cr u.1 u.2=0:=Classical.not_not.1 hk;have hk1:¬Cx s.lk.cr u.1 u.2≠0:=hk;rw[if_neg hk1]at uc
  have hsd:f.sd (s.lk.img u.1)≠f.sd (s.lk.img (s.lk.nb u)):=by
   have h8:decide (Cx (s.to f (s.mvd f)).lk.cr u.1 u.2≠0)=true:=decide_eq_true hk';rw[h8,decide_eq_false hk1,Bool.false_or]at hkt;simpa using hkt.symm
  have hin:u∈Hd s f.k f.c:=by
   have h8:=G.passes (f:=f) F.side h1 h2 h3 (by have:=(G.S.step u.1 u.2 h1 h2 h3).2.1;omega);rw[←h5,←G.kimg h1,←G.kimg h4,decide_eq_true hk0,Bool.and_true]at h8;have h9:(f.sd (s.lk.img u.1) != f.sd (s.lk.img (s.lk.nb u)))=true:=by simpa using hsd
   rw[h9]at h8;exact of_decide_eq_true h8
  have ek:Cx (s.to f (s.mvd f)).cr u.1 u.2=s.kf f u.1:=by
   have hrt:(⟨u.1,u.2,s.kf f u.1⟩:Cr)∈(s.to f (s.mvd f)).cr:=(Ii _).mem_iff.2 (List.mem_append_right _ (List.mem_map.2 ⟨u,hin,rfl⟩));exact aS G'.pat.asc hrt
  rw[ek];unfold St.kf cK;rw[G.ups h1]
  have hx:f.R (s.lk.img u.1)=s.lk.img (s.lk.nb u):=by
   have hc:=G.kind hu;rw[decide_eq_false hk1]at hc;have hnx:=Py G.S G.pl h1 h2 h3 hc;obtain⟨e',he2,he'⟩:=Nz (m.getD u.1 mv0) (Pf (G.pl.ok u.1 h1)) (Cp (a:Int) u.1) (Fe _ _) u.2 h2;have hsd2:=hsd;rw[G.kimg h1,G.kimg h4,h5]at hsd2⊢;rw[hnx,he']at hsd2⊢;have hd:=(oA F.side _ _).1 hsd2;have hln:=Um F.k (imP a m u.1) (Eb _ _) e' he2 hd;have hr:=(Uy (imP a m u.1) (Eb _ _) e' he2).2;rw[hln]at hr;exact hr
  cases hs:f.sd (s.lk.img u.1)with
  |false=>
   have hs2:f.sd (s.lk.img (s.lk.nb u))=true:=by
    rw[hs]at hsd
    cases h:f.sd (s.lk.img (s.lk.nb u))
    ·rw[h]at hsd;exact absurd rfl hsd
    ·rfl
   obtain⟨a1,-,a2,a3,a4⟩:=F1.stay hs;obtain⟨b1,b5,-,b2,b3,b4⟩:=F2.moved hs2;have ei:(s.to f (s.mvd f)).lk.img (s.lk.nb u)=(s.to f (s.mvd f)).lk.img u.1:=by rw[b1,a1,←hx,F1.inv]
   rw[ei]at b2 b4 e2;rw[hs]at u1;rw[hs2,uc]at u2
   cases hov:f.over with
   |true=>
    rw[hov]at a2 b2;simp only[if_true]at a2 b2;rw[if_pos (show(s.to f (s.mvd f)).lk.hs.getD u.1 0<(s.to f (s.mvd f)).lk.hs.getD (s.lk.nb u) 0 by omega),u2]
    cases upP m u.1<;>decide
   |false=>
    rw[hov]at a2 b2;simp at a2 b2;rw[if_neg (show¬(s.to f (s.mvd f)).lk.hs.getD u.1 0<(s.to f (s.mvd f)).lk.hs.getD (s.lk.nb u) 0 by omega),u1]
    cases upP m u.1<;>decide
  |true=>
   have hs2:f.sd (s.lk.img (s.lk.nb u))=false:=by
    rw[hs]at hsd
    cases h:f.sd (s.lk.img (s.lk.nb u))
    ·rfl
    ·rw[h]at hsd;exact absurd rfl hsd
   obtain⟨a1,a5,-,a2,a3,a4⟩:=F1.moved hs;obtain⟨b1,-,b2,b3,b4⟩:=F2.stay hs2;have ei:(s.to f (s.mvd f)).lk.img (s.lk.nb u)=(s.to f (s.mvd f)).lk.img u.1:=by rw[b1,a1,hx]
   rw[ei]at b2 b4 e2;rw[hs]at u1;rw[hs2,uc]at u2
   cases hov:f.over with
   |true=>
    rw[hov]at a2 b2;simp only[if_true]at a2 b2;rw[if_neg (show¬(s.to f (s.mvd f)).lk.hs.getD u.1 0<(s.to f (s.mvd f)).lk.hs.getD (s.lk.nb u) 0 by omega),u1]
    cases upP m u.1<;>decide
   |false=>
    rw[hov]at a2 b2;simp at a2 b2;rw[if_pos (show(s.to f (s.mvd f)).lk.hs.getD u.1 0<(s.to f (s.mvd f)).lk.hs.getD (s.lk.nb u) 0 by omega),u2]
    cases upP m u.1<;>decide
end
section
variable {a b:Nat} {s:St} {m:List Mv} {f:Fd}
theorem GSt.stkTo (G:GSt a b s m) (hg:Gs s) (F:Hl a b m f):Jv (s.to f (s.mvd f)).a (s.to f (s.mvd f)).b (s.to f (s.mvd f)).cr (s.to f (s.mvd f)).root (s.to f (s.mvd f)).l=0:=by
 have G':=G.to F (s.mvd f);obtain⟨n1,n2,n3⟩:=bY (s:=s) (f:=f) (s.mvd f);have hids:=GSt.idsTo hg F;have hcell:=wY (s:=s) (f:=f) F.k F.side hg.cq
 have hlt:∀i∈Cw (s.to f (s.mvd f)).l,i<4*a*b:=λi hi=>by
  have:=(lS (s:=s) F.side).mem_iff.1 hi;obtain⟨y,hy,hyi⟩:=List.mem_flatMap.1 this;have:=(hg.at y hy).2.2 i hyi
  rwa [G.cnt]at this
 have hin:∀x∈(s.to f (s.mvd f)).l,∀i∈x.ls,i<4*a*b∧(s.to f (s.mvd f)).lk.img i=x.c:=λx hx i hi=>by
  have h1:=hlt i (List.mem_flatMap.2 ⟨x,hx,hi⟩);refine⟨h1,?_⟩;have h2:=G.memTo hg F h1;have h3:i∈atF (s.to f (s.mvd f)).l x.c:=by rw[Hm n1 hx];exact hi
  exact Qe hids n1 h2 h3
 have hnear:∀x∈(s.to f (s.mvd f)).l,Lx x.c:=λx hx=>by
  have hne:=n2 x hx;obtain⟨i,r,hr⟩:=List.exists_cons_of_ne_nil hne;obtain⟨h1,h2⟩:=hin x hx i (by rw[hr];simp);rw[←h2,G.imgTo F _ h1,G.kimg h1];exact F.near i h1
 have hchk:chkS (Cq (s.to f (s.mvd f)).a (s.to f (s.mvd f)).b) (s.to f (s.mvd f)).l=0:=by
  rw[G'.cnt];refine Xc (λx hx=>⟨Kt (hnear x hx) (hcell x hx).1,n2 x hx,λi hi=>(hin x hx i hi).1⟩) n3 hids ?_;rw[(lS (s:=s) F.side).length_eq];have:=(Gj hg.chkS).2.2
  rwa [G.cnt]at this
 unfold Jv;rw[if_neg (by rw[G'.both];simp),if_neg (by rw[hchk];decide),if_neg,if_neg]
 ·rw[Bool.not_eq_true,List.any_eq_false];intro x hx;rw[Bool.not_eq_true,List.any_eq_false];intro e he
  have he2:e≤2:=by
   simp only[Bk,List.not_mem_nil,or_false]at he;omega
  have h1:=hnear x hx;have h2:=(hcell x hx).1;rw[Us (Kt h1 h2) he2 (Nk h1 h2 e)];simp
 ·rw[Bool.not_eq_true,List.any_eq_false];intro x hx;rw[Bool.not_eq_true,List.any_eq_false];intro i hi;have:=(hin x hx i hi).2;have h3:(s.to f (s.mvd f)).lk.img i=(Df (s.to f (s.mvd f)).a (s.to f (s.mvd f)).b (s.to f (s.mvd f)).cr (s.to f (s.mvd f)).root).1.2.getD i cl0:=rfl;rw[←h3,this];simp
theorem GSt.crossTo (G:GSt a b s m) (hg:Gs s) (F:Hl a b m f):(s.to f (s.mvd f)).lk.seams.any (Fh (s.to f (s.mvd f)).l)=false:=by
 have G':=G.to F (s.mvd f);refine(Xh λu hu=>G'.hne hu).2 (Aq7 (λu hu h=>G'.p0 hu h) (λu hu h=>G'.l0 hu h) (λu hu=>G'.hne hu) (λu hu=>?_) (G.nc2To hg F));obtain⟨h1,-,-,h4,-⟩:=G.reg (u:=u) hu;exact⟨G.lo hg F h1,G.lo hg F h4⟩
theorem dF (G:GSt a b s m) (hg:Gs s) (F:Hl a b m f):Gs (s.to f (s.mvd f)):=by
 have G':=G.to F (s.mvd f);exact⟨G'.pat,aI (G.stkTo hg F) (G.crossTo hg F) (G'.bends_iff.2 (wR G hg F))⟩
theorem pX (G:GSt a b s m) (hg:Gs s) (F:Hl a b m f) (hp:Hd s f.k f.c≠[]):s.do f=(0,Af (s.to f (s.mvd f))):=by
 have hmv:s.mv f=Af (s.mvd f):=Ba4 λx hx hs=>by
  have hne:=(hg.at x hx).2.1;obtain⟨i,r,hr⟩:=List.exists_cons_of_ne_nil hne;have hi:i∈x.ls:=by rw[hr];simp
  have hlt:=(hg.at x hx).2.2 i hi;obtain⟨hn,hm⟩:=hg.lies hlt;have h3:i∈atF s.l x.c:=by rw[Hm hn hx];exact hi
  have e:=Qe (Gj hg.chkS).2.1 hn hm h3;rw[G.cnt]at hlt;have h4:=F.near i hlt;rw[←G.img hlt,e,hs,if_pos rfl]at h4;exact Kt h4 (Eb _ _)
 unfold St.do;rw[if_neg (by rw[hg.chk];decide),pY,hmv]
 have h1:Le f.k f.c f.side=true:=by
  unfold Le;rw[F.line,Bool.true_and];have:=F.side;exact decide_eq_true Ci
 rw[if_neg (by rw[h1];decide),if_neg (by simpa using hp)];dsimp only;rw[if_neg (by rw[G.rt F];simp),if_pos (dF G hg F).chk]
end
theorem mT {a b:Int} (hs:okS a b=true):Gx a b []:=⟨hs,Cn,Cn,Cn,.nil,Cn⟩
theorem Ks (c:Cl) (hq:c.q≤3):Da mv0 c=c:=by
 obtain⟨x,y,q⟩:=c;dsimp only at hq;rcases Wg hq with rfl|rfl|rfl|rfl<;>simp[Da,mv0,Ee,Dk,mat,Ea,Hk]<;>omega
theorem sD {a i j:Nat} (h:Cp (a:Int) i=Cp (a:Int) j):i=j:=by
 unfold Cp at h;injection h with h1 h2 h3;have e1:∀k:Nat,((k:Int)/4%(a:Int))=((k/4%a:Nat):Int):=λk=>Cn;have e2:∀k:Nat,((k:Int)/4/(a:Int))=((k/4/a:Nat):Int):=λk=>Cn;rw[e1,e1]at h1;rw[e2,e2]at h2;have h1:i/4%a=j/4%a:=by exact_mod_cast h1
 have h2:i/4/a=j/4/a:=by exact_mod_cast h2
 have g1:=Nat.div_add_mod (i/4) a;have g2:=Nat.div_add_mod (j/4) a;rw[h1,h2]at g1;omega
section
variable {a b:Nat}
theorem Yr (S:Jb a b):Ns a b [] (Ba (4*a*b) mv0):=by
 have z:∀i,(Ba (4*a*b) mv0).getD i mv0=mv0:=λi=>by
  rw[List.getD_eq_getElem?_getD,List.getElem?_replicate]
  split<;>rfl
 refine⟨Cn,z 0,λi _=>by rw[z];decide,λi hi=>?_,λi e hi he h0=>?_⟩
 ·rw[z,Ks _ (Fe _ _)];exact Ke S.ok (by rw[Em];exact hi)
 ·rw[z,z];rfl
theorem fO (S:Jb a b):GSt a b (Ex a b) (Ba (4*a*b) mv0):=⟨rfl,rfl,S,mT S.ok,rfl,Yr S⟩
theorem Xx (a b i:Nat):imP a (Ba (4*a*b) mv0) i=Cp (a:Int) i:=by
 have z:(Ba (4*a*b) mv0).getD i mv0=mv0:=by
  rw[List.getD_eq_getElem?_getD,List.getElem?_replicate]
  split<;>rfl
 unfold imP;rw[z,Ks _ (Fe _ _)]
def Ui (a b:Nat):List Stk:=(List.range (4*a*b)).map λid=>⟨Cp (a:Int) id,[id]⟩
theorem lF (S:Jb a b):(Ex a b).l=Ev [] (Ui a b):=by
 unfold Ex Ui;dsimp only;rw[Em,Yq S (Yr S)]
 congr 1
 refine List.map_congr_left λi hi=>?_;have hi:=List.mem_range.1 hi;dsimp only
 congr 1
 rw[List.getD_eq_getElem?_getD,List.getElem?_map,List.getElem?_range hi];exact Xx a b i
theorem Vn (a b:Nat):((Ui a b).map (·.c)).Nodup:=by
 unfold Ui;rw[List.map_map,List.Nodup,List.pairwise_map];exact List.nodup_range.imp λ{i j} h e=>h (sD e)
theorem fN (S:Jb a b) {i:Nat} (hi:i<4*a*b):atF (Ex a b).l (Cp (a:Int) i)=[i]:=by
 rw[lF S,Ua Cn (Vn a b),Sb,List.nil_append];exact Hm (x:=⟨Cp (a:Int) i,[i]⟩) (Vn a b) (List.mem_map.2 ⟨i,List.mem_range.2 hi,rfl⟩)
theorem pU (S:Jb a b):Gs (Ex a b):=by
 have G:=fO S;obtain⟨n1,n2,n3⟩:=Vr [] (Ui a b);rw[←lF S]at n1 n2 n3
 have hids:(Cw (Ex a b).l).Perm (List.range (4*a*b)):=by
  rw[lF S];refine(Xt _ _).trans ?_;unfold Cw Ui;rw[List.flatMap_nil,List.nil_append,List.flatMap_map];have:((List.range (4*a*b)).flatMap λid=>[id])=List.range (4*a*b):=Cn;rw[this]
 have him:∀i,i<4*a*b→(Ex a b).lk.img i=Cp (a:Int) i:=λi hi=>by rw[G.kimg hi,Xx]
 have hin:∀x∈(Ex a b).l,∀i∈x.ls,i<4*a*b∧(Ex a b).lk.img i=x.c:=λx hx i hi=>by
  have h1:i<4*a*b:=List.mem_range.1 (hids.mem_iff.1 (List.mem_flatMap.2 ⟨x,hx,hi⟩));refine⟨h1,?_⟩;rw[him i h1];have h2:i∈atF (Ex a b).l (Cp (a:Int) i):=by rw[fN S h1];simp
  have h3:i∈atF (Ex a b).l x.c:=by rw[Hm n1 hx];exact hi
  exact Qe (hids.nodup_iff.2 List.nodup_range) n1 h2 h3
 have hnear:∀x∈(Ex a b).l,Lx x.c∧x.c.q≤3:=λx hx=>by
  obtain⟨i,r,hr⟩:=List.exists_cons_of_ne_nil (n2 x hx);obtain⟨h1,h2⟩:=hin x hx i (by rw[hr];simp);rw[←h2,him i h1];exact⟨Ke S.ok (by rw[Em];exact h1),Fe _ _⟩
 have hchk:chkS (Cq (Ex a b).a (Ex a b).b) (Ex a b).l=0:=by
  rw[G.cnt];refine Xc (λx hx=>⟨Kt (hnear x hx).1 (hnear x hx).2,n2 x hx,λi hi=>(hin x hx i hi).1⟩) n3 (hids.nodup_iff.2 List.nodup_range) ?_;rw[hids.length_eq,List.length_range];exact Am _
 have hstk:Jv (Ex a b).a (Ex a b).b (Ex a b).cr (Ex a b).root (Ex a b).l=0:=by
  unfold Jv;rw[if_neg (by rw[G.both];simp),if_neg (by rw[hchk];decide),if_neg,if_neg]
  ·rw[Bool.not_eq_true,List.any_eq_false];intro x hx;rw[Bool.not_eq_true,List.any_eq_false];intro e he
   have he2:e≤2:=by
    simp only[Bk,List.not_mem_nil,or_false]at he;omega
   obtain⟨h1,h2⟩:=hnear x hx;rw[Us (Kt h1 h2) he2 (Nk h1 h2 e)];simp
  ·rw[Bool.not_eq_true,List.any_eq_false];intro x hx;rw[Bool.not_eq_true,List.any_eq_false];intro i hi;have:=(hin x hx i hi).2;have h3:(Ex a b).lk.img i=(Df (Ex a b).a (Ex a b).b (Ex a b).cr (Ex a b).root).1.2.getD i cl0:=rfl;rw[←h3,this];simp
 have hz:∀i,i<4*a*b→htC (Ex a b).l ((Ex a b).lk.img i) i=0:=λi hi=>by
  rw[him i hi];unfold htC;rw[fN S hi,Hv,if_pos rfl]
 have hk0:∀u:Nat×Nat,Cx (Ex a b).lk.cr u.1 u.2=0:=λu=>rfl;refine⟨G.pat,aI hstk ((Xh λu hu=>G.hne hu).2 (Aq7 (λu hu h=>G.p0 hu h) (λu hu h=>G.l0 hu h) (λu hu=>G.hne hu) (λu hu=>?_) ⟨λu v x y z w hu hv _ _ eu ev _ _ hc=>?_,λu v x y hu hv _ hv0=>?_,λu v hu hv hu0=>?_⟩)) (G.bends_iff.2 λu hu h=>absurd (hk0 u) h)⟩
 ·obtain⟨h1,-,-,h4,-⟩:=G.reg hu;rw[hz _ h1,hz _ h4];exact⟨Ct,Ct⟩
 ·obtain⟨h1,-,-,h4,-⟩:=G.reg hu;obtain⟨g1,-,-,g4,-⟩:=G.reg hv;have hx:x<4*a*b:=by rcases eu with⟨rfl,-⟩|⟨rfl,-⟩<;>assumption
  have hzz:z<4*a*b:=by rcases ev with⟨rfl,-⟩|⟨rfl,-⟩<;>assumption
  rw[hz _ hx,hz _ hzz]at hc;omega
 ·have:=hk0 v;simp[this]at hv0
 ·have:=hk0 u;simp[this]at hu0
end
end Go.Proofs.YthpcfeifmdbhnaaGreatDoor
