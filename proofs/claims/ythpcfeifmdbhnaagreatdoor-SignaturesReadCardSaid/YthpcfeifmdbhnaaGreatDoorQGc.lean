import Derived.Test.YthpcfeifmdbhnaaGreatDoorQOvi
open List renaming append_assoc→Bj,flatMap_append→Bi,flatMap_cons→Bf,length_append→Bh,mem_append→Bl,mem_cons→Bk,nodup_append→Bp,replicate→Ba
open Option renaming none→Ae,some→Af
set_option maxHeartbeats 4000000
namespace Go.Proofs.YthpcfeifmdbhnaaGreatDoor
def Lk.cnt (k:Lk) (u:Nat×Nat):Prop:=(nbI k.a k.b u.1 u.2).2=0∧¬(nbI k.a k.b u.1 u.2).1<(u.1:Int)
def Lk.nb (k:Lk) (u:Nat×Nat):Nat:=(nbI k.a k.b u.1 u.2).1.toNat
def Lk.pe (k:Lk) (b:Cl) (u:Nat×Nat):Nat×Nat:=if k.img u.1=b then (k.nb u,u.1)else (u.1,k.nb u)
def Lk.le (k:Lk) (b:Cl) (u:Nat×Nat):Nat×Nat×Nat:=if k.hs.getD u.1 0<k.hs.getD (k.nb u) 0 then ((if k.img u.1=b then 1 else 0),u.1,k.nb u)else ((if k.img u.1=b then 1 else 0),k.nb u,u.1)
theorem jT {a b:Cl} {f:Sm→Sm}:∀{l:List Sm} {s:Sm},s∈Ln a b f l→s∈l∨(∃t∈l,t.a=a∧t.b=b∧s=f t)∨s=f (Sm.none a b)
 |[],s,h=> .inr (.inr (by simpa[Ln]using h))
 |t::r,s,h=>by
  unfold Ln at h
  split at h
  ·rename_i ht;rcases Bk.1 h with rfl|h
   ·exact .inr (.inl ⟨t,Cn,ht.1,ht.2,rfl⟩)
   ·exact .inl (List.mem_cons_of_mem _ h)
  ·rcases Bk.1 h with rfl|h
   ·exact .inl Cn
   ·rcases jT h with h|⟨t',h1,h2⟩|h
    ·exact .inl (List.mem_cons_of_mem _ h)
    ·exact .inr (.inl ⟨t',List.mem_cons_of_mem _ h1,h2⟩)
    ·exact .inr (.inr h)
theorem bZ {a b:Cl} {f:Sm→Sm}:∀{l:List Sm} {s:Sm},s∈l→s∈Ln a b f l∨(s.a=a∧s.b=b∧f s∈Ln a b f l)
 |t::r,s,h=>by
  unfold Ln
  split
  ·rename_i ht;rcases Bk.1 h with rfl|h
   ·exact .inr ⟨ht.1,ht.2,Cn⟩
   ·exact .inl (List.mem_cons_of_mem _ h)
  ·rcases Bk.1 h with rfl|h
   ·exact .inl Cn
   ·rcases bZ (a:=a) (b:=b) (f:=f) h with h|⟨h1,h2,h⟩
    ·exact .inl (List.mem_cons_of_mem _ h)
    ·exact .inr ⟨h1,h2,List.mem_cons_of_mem _ h⟩
theorem jU {a b:Cl} {f:Sm→Sm}:∀(l:List Sm),∃t,t.a=a∧t.b=b∧f t∈Ln a b f l
 |[]=>⟨Sm.none a b,rfl,rfl,by simp[Ln]⟩
 |t::r=>by
  unfold Ln
  split
  ·rename_i ht;exact⟨t,ht.1,ht.2,Cn⟩
  ·obtain⟨t',h1,h2,h⟩:=jU (f:=f) r;exact⟨t',h1,h2,List.mem_cons_of_mem _ h⟩
theorem Wj (k:Lk) (id e:Nat) (s:Sm):(k.add id e s).a=s.a∧(k.add id e s).b=s.b:=by
 unfold Lk.add
 split
 ·exact⟨rfl,rfl⟩
 ·split
  ·exact⟨rfl,rfl⟩
  ·dsimp only
   split<;>exact⟨rfl,rfl⟩
theorem cH (k:Lk) (id e:Nat) (s:Sm):((k.add id e s).ps=s.ps∧(k.add id e s).ls=s.ls∧¬k.cnt (id,e))∨
  (k.cnt (id,e)∧Cx k.cr id e=0∧(k.add id e s).ps=s.ps++[k.pe s.b (id,e)]∧(k.add id e s).ls=s.ls)∨
  (k.cnt (id,e)∧Cx k.cr id e≠0∧(k.add id e s).ps=s.ps∧(k.add id e s).ls=s.ls++[k.le s.b (id,e)]):=by
 unfold Lk.add Lk.cnt;dsimp only
 split
 ·rename_i h;exact .inl ⟨rfl,rfl,λh2=>h h2.1⟩
 ·rename_i h;have h0:(nbI k.a k.b id e).2=0:=Classical.not_not.1 h
  split
  ·rename_i h1;exact .inl ⟨rfl,rfl,λh2=>h2.2 h1⟩
  ·rename_i h1
   split
   ·rename_i hk;refine .inr (.inl ⟨⟨h0,h1⟩,hk,?_,rfl⟩);dsimp only;unfold Lk.pe Lk.nb;by_cases hb:k.img id=s.b
    ·simp[hb]
    ·simp[hb]
   ·rename_i hk;refine .inr (.inr ⟨⟨h0,h1⟩,hk,rfl,?_⟩);dsimp only;unfold Lk.le Lk.nb;rfl
theorem Rv (k:Lk):∀j,∀s∈k.seamsTo j,
  (∀p∈s.ps,∃u:Nat×Nat,u.2<3∧3*u.1+u.2<j∧k.key u.1 u.2=(s.a,s.b)∧k.cnt u∧Cx k.cr u.1 u.2=0∧p=k.pe s.b u)∧
  (∀x∈s.ls,∃u:Nat×Nat,u.2<3∧3*u.1+u.2<j∧k.key u.1 u.2=(s.a,s.b)∧k.cnt u∧Cx k.cr u.1 u.2≠0∧x=k.le s.b u)
 |0,s,h=>by simp[Lk.seamsTo]at h
 |j+1,s,h=>by
  have ih:=Rv k j;have hj:3*(j/3)+j%3=j:=Ci;have hm:j%3<3:=Ci
  have up:∀t:Sm,((∀p∈t.ps,∃u:Nat×Nat,u.2<3∧3*u.1+u.2<j∧k.key u.1 u.2=(t.a,t.b)∧k.cnt u∧Cx k.cr u.1 u.2=0∧p=k.pe t.b u)∧(∀x∈t.ls,∃u:Nat×Nat,u.2<3∧3*u.1+u.2<j∧k.key u.1 u.2=(t.a,t.b)∧k.cnt u∧Cx k.cr u.1 u.2≠0∧x=k.le t.b u))→
    ((∀p∈t.ps,∃u:Nat×Nat,u.2<3∧3*u.1+u.2<j+1∧k.key u.1 u.2=(t.a,t.b)∧k.cnt u∧Cx k.cr u.1 u.2=0∧p=k.pe t.b u)∧(∀x∈t.ls,∃u:Nat×Nat,u.2<3∧3*u.1+u.2<j+1∧k.key u.1 u.2=(t.a,t.b)∧k.cnt u∧Cx k.cr u.1 u.2≠0∧x=k.le t.b u)):=λt ht=>
   ⟨λp hp=>by obtain⟨u,h1,h2,h3⟩:=ht.1 p hp;exact⟨u,h1,Ci,h3⟩,λp hp=>by obtain⟨u,h1,h2,h3⟩:=ht.2 p hp;exact⟨u,h1,Ci,h3⟩⟩
  have stp:∀t:Sm,t.a=(k.key (j/3) (j%3)).1→t.b=(k.key (j/3) (j%3)).2→((∀p∈t.ps,∃u:Nat×Nat,u.2<3∧3*u.1+u.2<j∧k.key u.1 u.2=(t.a,t.b)∧k.cnt u∧Cx k.cr u.1 u.2=0∧p=k.pe t.b u)∧(∀x∈t.ls,∃u:Nat×Nat,u.2<3∧3*u.1+u.2<j∧k.key u.1 u.2=(t.a,t.b)∧k.cnt u∧Cx k.cr u.1 u.2≠0∧x=k.le t.b u))→
    s=k.add (j/3) (j%3) t→((∀p∈s.ps,∃u:Nat×Nat,u.2<3∧3*u.1+u.2<j+1∧k.key u.1 u.2=(s.a,s.b)∧k.cnt u∧Cx k.cr u.1 u.2=0∧p=k.pe s.b u)∧(∀x∈s.ls,∃u:Nat×Nat,u.2<3∧3*u.1+u.2<j+1∧k.key u.1 u.2=(s.a,s.b)∧k.cnt u∧Cx k.cr u.1 u.2≠0∧x=k.le s.b u)):=by
   intro t ha hb ht e;subst e;obtain⟨e1,e2⟩:=Wj k (j/3) (j%3) t;rw[e1,e2];have hkey:k.key (j/3) (j%3)=(t.a,t.b):=by rw[ha,hb]
   have ht:=up t ht;rcases cH k (j/3) (j%3) t with⟨f1,f2,-⟩|⟨hc,hk,f1,f2⟩|⟨hc,hk,f1,f2⟩
   ·rw[f1,f2];exact ht
   ·rw[f1,f2];refine⟨λp hp=>?_,ht.2⟩;rcases Bl.1 hp with hp|hp
    ·exact ht.1 p hp
    ·exact⟨(j/3,j%3),hm,by dsimp only;omega,hkey,hc,hk,by simpa using hp⟩
   ·rw[f1,f2];refine⟨ht.1,λp hp=>?_⟩;rcases Bl.1 hp with hp|hp
    ·exact ht.2 p hp
    ·exact⟨(j/3,j%3),hm,by dsimp only;omega,hkey,hc,hk,by simpa using hp⟩
  unfold Lk.seamsTo Lk.meet at h;rcases jT h with h|⟨t,ht,h1,h2,e⟩|e
  ·exact up s (ih s h)
  ·exact stp t h1 h2 (ih t ht) e
  ·exact stp _ rfl rfl ⟨by simp[Sm.none],by simp[Sm.none]⟩ e
theorem Za (k:Lk):∀j,∀u:Nat×Nat,u.2<3→3*u.1+u.2<j→k.cnt u→∃s∈k.seamsTo j,k.key u.1 u.2=(s.a,s.b)∧(Cx k.cr u.1 u.2=0→k.pe s.b u∈s.ps)∧(Cx k.cr u.1 u.2≠0→k.le s.b u∈s.ls)
 |0,u,_,h,_=>Ci
 |j+1,u,hu,h,hc=>by
  unfold Lk.seamsTo Lk.meet
  have mono:∀t:Sm,(∀p∈t.ps,p∈(k.add (j/3) (j%3) t).ps)∧(∀p∈t.ls,p∈(k.add (j/3) (j%3) t).ls):=λt=>by
   rcases cH k (j/3) (j%3) t with⟨f1,f2,-⟩|⟨-,-,f1,f2⟩|⟨-,-,f1,f2⟩<;>rw[f1,f2]<;>refine⟨λp hp=>?_,λp hp=>?_⟩<;>simp[hp]
  by_cases hj:3*u.1+u.2<j
  ·obtain⟨s,hs,h1,h2,h3⟩:=Za k j u hu hj hc;rcases bZ (a:=(k.key (j/3) (j%3)).1) (b:=(k.key (j/3) (j%3)).2) (f:=k.add (j/3) (j%3)) hs with h|⟨-,-,h⟩
   ·exact⟨s,h,h1,h2,h3⟩
   ·obtain⟨e1,e2⟩:=Wj k (j/3) (j%3) s;exact⟨_,h,by rw[e1,e2];exact h1,λh0=>by rw[e2];exact(mono s).1 _ (h2 h0),λh0=>by rw[e2];exact(mono s).2 _ (h3 h0)⟩
  ·have e1:u.1=j/3:=Ci;have e2:u.2=j%3:=Ci;obtain⟨t,h1,h2,hm⟩:=jU (a:=(k.key (j/3) (j%3)).1) (b:=(k.key (j/3) (j%3)).2) (f:=k.add (j/3) (j%3)) (k.seamsTo j);obtain⟨f1,f2⟩:=Wj k (j/3) (j%3) t;obtain⟨i,e⟩:=u;dsimp only at e1 e2;subst e1 e2;refine⟨_,hm,by rw[f1,f2,h1,h2],λh0=>?_,λh0=>?_⟩
   ·rcases cH k (j/3) (j%3) t with⟨-,-,hn⟩|⟨-,-,g1,-⟩|⟨-,hn,-⟩
    ·exact absurd hc hn
    ·rw[f2,g1];simp
    ·exact absurd h0 hn
   ·rcases cH k (j/3) (j%3) t with⟨-,-,hn⟩|⟨-,hn,-⟩|⟨-,-,-,g2⟩
    ·exact absurd hc hn
    ·exact absurd hn h0
    ·rw[f2,g2];simp
def htC (l:List Stk) (c:Cl) (id:Nat):Int:=Gh (atF l c) id
theorem kW {t:List Int} {l:List (Int×Int)}:Ih t l=false↔∀x∈l,(∀h∈t,¬(x.1<h∧h<x.2))∧∀y∈l,Jy x y=false:=by
 unfold Ih;simp only[List.any_eq_false,Bool.or_eq_true,not_or,List.any_eq_true,not_exists,not_and,Bool.and_eq_true,decide_eq_true_eq,Bool.not_eq_true]
theorem kX (l m:List Stk) (s:Sm):La (Dp (atF l s.a) s 0) (Dp (atF m s.b) s 1)=false↔∀p∈s.ps,∀q∈s.ps,¬(htC l s.a p.1<htC l s.a q.1∧htC m s.b q.2<htC m s.b p.2):=by
 have e:(Dp (atF l s.a) s 0).zip (Dp (atF m s.b) s 1)=s.ps.map λp=>(htC l s.a p.1,htC m s.b p.2):=by
  unfold Dp dS htC;rw[List.zip_map'];rfl
 unfold La;rw[e];simp only[List.any_eq_false,List.mem_map,forall_exists_index,and_imp,forall_apply_eq_imp_iff₂,Bool.and_eq_true,decide_eq_true_eq,not_and,List.any_eq_true,not_exists]
structure kE (l:List Stk) (s:Sm):Prop where
 ps:∀p∈s.ps,0≤htC l s.a p.1∧0≤htC l s.b p.2
 ls:∀x∈s.ls,x.1≤1∧0≤htC l (if x.1=0 then s.a else s.b) x.2.1∧0≤htC l (if x.1=0 then s.a else s.b) x.2.2
 pl:∀p∈s.ps,∀x∈s.ls,¬(min (htC l (if x.1=0 then s.a else s.b) x.2.1) (htC l (if x.1=0 then s.a else s.b) x.2.2)<(if x.1=0 then htC l s.a p.1 else htC l s.b p.2)∧(if x.1=0 then htC l s.a p.1 else htC l s.b p.2)<max (htC l (if x.1=0 then s.a else s.b) x.2.1) (htC l (if x.1=0 then s.a else s.b) x.2.2))
 ll:∀x∈s.ls,∀y∈s.ls,x.1=y.1→Jy (mm (htC l (if x.1=0 then s.a else s.b) x.2.1,htC l (if x.1=0 then s.a else s.b) x.2.2)) (mm (htC l (if x.1=0 then s.a else s.b) y.2.1,htC l (if x.1=0 then s.a else s.b) y.2.2))=false
 pp:∀p∈s.ps,∀q∈s.ps,¬(htC l s.a p.1<htC l s.a q.1∧htC l s.b q.2<htC l s.b p.2)
theorem sO (ls:List Nat) (s:Sm) (d:Nat):Jq ls s d=true↔(∀p∈s.ps,0≤Gh ls (dS d p))∧∀x∈s.ls,x.1=d→0≤Gh ls x.2.1∧0≤Gh ls x.2.2:=by
 unfold Jq Dp aV;rw[Bool.and_eq_true];refine and_congr (by simp[List.all_eq_true]) ?_;rw[List.all_eq_true]
 constructor
 ·intro h x hx e;have:=h (Gh ls x.2.1,Gh ls x.2.2) (List.mem_map.2 ⟨x,List.mem_filter.2 ⟨hx,by simp[e]⟩,rfl⟩);simpa using this
 ·intro h z hz;obtain⟨x,hx,rfl⟩:=List.mem_map.1 hz;obtain⟨h1,h2⟩:=List.mem_filter.1 hx;have:=h x h1 (by simpa using h2);simpa using this
theorem tU (ls:List Nat) (s:Sm) (d:Nat) (z:Int×Int):z∈Nj ls s d↔∃x∈s.ls,x.1=d∧z=mm (Gh ls x.2.1,Gh ls x.2.2):=by
 unfold Nj aV;simp only[List.mem_map,List.mem_filter,decide_eq_true_eq]
 constructor
 ·rintro⟨y,⟨x,⟨hx,hd⟩,rfl⟩,rfl⟩;exact⟨x,hx,hd,rfl⟩
 ·rintro⟨x,hx,hd,rfl⟩;exact⟨_,⟨x,⟨hx,hd⟩,rfl⟩,rfl⟩
theorem tV (ls:List Nat) (s:Sm) (d:Nat) (h:Int):h∈Dp ls s d↔∃p∈s.ps,h=Gh ls (dS d p):=by
 unfold Dp;simp only[List.mem_map]
 constructor
 ·rintro⟨p,hp,rfl⟩;exact⟨p,hp,rfl⟩
 ·rintro⟨p,hp,rfl⟩;exact⟨p,hp,rfl⟩
theorem Xg {l:List Stk} {s:Sm}:Fh l s=false↔kE l s:=by
 unfold Fh;simp only[Bool.or_eq_false_iff,Bool.not_eq_false',List.any_eq_false,decide_eq_true_eq,Nat.not_lt,kW,kX,sO,tU,tV]
 constructor
 ·rintro⟨⟨⟨⟨⟨⟨g0,g1⟩,⟨g2,g3⟩⟩,g4⟩,g5⟩,g6⟩,g7⟩;have hx:∀x∈s.ls,x.1=0∨x.1=1:=λx hx=>by have:=g4 x hx;omega
  refine⟨λp hp=>⟨g0 p hp,g2 p hp⟩,λx h=>⟨g4 x h,?_⟩,λp hp x h=>?_,λx h y h' e=>?_,g7⟩
  ·rcases hx x h with e|e
   ·rw[e];exact g1 x h e
   ·rw[e];exact g3 x h e
  ·rcases hx x h with e|e
   ·rw[e];exact(g5 _ ⟨x,h,e,rfl⟩).1 _ ⟨p,hp,rfl⟩
   ·rw[e];exact(g6 _ ⟨x,h,e,rfl⟩).1 _ ⟨p,hp,rfl⟩
  ·rcases hx x h with e0|e0
   ·rw[e0];exact(g5 _ ⟨x,h,e0,rfl⟩).2 _ ⟨y,h',e▸e0,rfl⟩
   ·rw[e0];exact(g6 _ ⟨x,h,e0,rfl⟩).2 _ ⟨y,h',e▸e0,rfl⟩
 ·rintro⟨h1,h2,h3,h4,h5⟩;refine⟨⟨⟨⟨⟨⟨λp hp=>(h1 p hp).1,λx hx e=>?_⟩,⟨λp hp=>(h1 p hp).2,λx hx e=>?_⟩⟩,λx hx=>(h2 x hx).1⟩,?_⟩,?_⟩,h5⟩
  ·have:=(h2 x hx).2;rw[e]at this;exact this
  ·have:=(h2 x hx).2;rw[e]at this;exact this
  ·rintro _ ⟨x,hx,e,rfl⟩;refine⟨?_,?_⟩
   ·rintro _ ⟨p,hp,rfl⟩;have:=h3 p hp x hx;rw[e]at this;exact this
   ·rintro _ ⟨y,hy,e',rfl⟩;have:=h4 x hx y hy (e.trans e'.symm);rw[e]at this;exact this
  ·rintro _ ⟨x,hx,e,rfl⟩;refine⟨?_,?_⟩
   ·rintro _ ⟨p,hp,rfl⟩;have:=h3 p hp x hx;rw[e]at this;exact this
   ·rintro _ ⟨y,hy,e',rfl⟩;have:=h4 x hx y hy (e.trans e'.symm);rw[e]at this;exact this
def Lk.reg (k:Lk) (u:Nat×Nat):Prop:=u.2<3∧u.1<Cq k.a k.b∧k.cnt u
def Lk.hU (k:Lk) (l:List Stk) (c:Cl) (u:Nat×Nat):Int:=htC l c (if k.img u.1=c then u.1 else k.nb u)
def Lk.hL (k:Lk) (l:List Stk) (u:Nat×Nat):Int×Int:=mm (htC l (k.img u.1) u.1,htC l (k.img u.1) (k.nb u))
theorem gE (a b:Cl) (f:Sm→Sm) (hf:∀s,(f s).a=s.a∧(f s).b=s.b):∀l:List Sm,(Ln a b f l).map (λs=>(s.a,s.b))=l.map (λs=>(s.a,s.b))∨((Ln a b f l).map (λs=>(s.a,s.b))=l.map (λs=>(s.a,s.b))++[(a,b)]∧(a,b)∉l.map λs=>(s.a,s.b))
 |[]=> .inr ⟨by have h:=hf (Sm.none a b);simp only[Ln,List.map_cons,List.map_nil,List.nil_append,h.1,h.2];rfl,Cn⟩
 |s::r=>by
  unfold Ln
  split
  ·exact .inl (by simp[(hf s).1,(hf s).2])
  ·rename_i h;rcases gE a b f hf r with e|⟨e,h2⟩
   ·exact .inl (by simp only[List.map_cons,e])
   ·refine .inr ⟨by simp only[List.map_cons,e,List.cons_append],?_⟩;rw[List.map_cons,Bk,not_or];refine⟨λe2=>h ?_,h2⟩;injection e2 with e3 e4;exact⟨e3.symm,e4.symm⟩
theorem Rk (k:Lk):∀j,((k.seamsTo j).map λs=>(s.a,s.b)).Nodup
 |0=>by simp[Lk.seamsTo]
 |j+1=>by
  have ih:=Rk k j;unfold Lk.seamsTo Lk.meet;rcases gE (k.key (j/3) (j%3)).1 (k.key (j/3) (j%3)).2 (k.add (j/3) (j%3)) (λs=>Wj k _ _ s) (k.seamsTo j)with e|⟨e,h⟩
  ·rw[e];exact ih
  ·rw[e,Bp]
   exact⟨ih,Cn,λx hx y hy=>by
    have:y=((k.key (j/3) (j%3)).1,(k.key (j/3) (j%3)).2):=by simpa using hy
    rw[this];exact λe2=>h (e2▸hx)⟩
theorem Ac0 (k:Lk) {j:Nat} {s t:Sm} (hs:s∈k.seamsTo j) (ht:t∈k.seamsTo j) (h:(s.a,s.b)=(t.a,t.b)):s=t:=by
 have h1:=Sy (Rk k j) hs;have h2:=Sy (Rk k j) ht;rw[←h1,←h2,h]
theorem Ny (k:Lk) (u:Nat×Nat):(k.key u.1 u.2=(k.img u.1,k.other u.1 u.2))∨(k.key u.1 u.2=(k.other u.1 u.2,k.img u.1)):=by
 unfold Lk.key
 split
 ·exact .inr rfl
 ·exact .inl rfl
theorem iI (k:Lk) (l:List Stk) {A B:Cl} {u:Nat×Nat} (hk:k.key u.1 u.2=(A,B)) (hne:k.img u.1≠k.other u.1 u.2):htC l A (k.pe B u).1=k.hU l A u∧htC l B (k.pe B u).2=k.hU l B u:=by
 unfold Lk.pe Lk.hU;rcases Ny k u with e|e
 ·rw[e]at hk;injection hk with h1 h2;rw[h1,h2]at hne;rw[if_neg (by rw[h1];exact hne),if_pos h1,if_neg (by rw[h1];exact hne)];exact⟨rfl,rfl⟩
 ·rw[e]at hk;injection hk with h1 h2;rw[h1,h2]at hne;rw[if_pos h2,if_neg (by rw[h2];exact hne),if_pos h2];exact⟨rfl,rfl⟩
theorem Al4 (x y:Int):mm (x,y)=mm (y,x):=by
 unfold mm;dsimp only;rw[Int.min_comm,Int.max_comm]
theorem gG (k:Lk) (l:List Stk) {A B:Cl} {u:Nat×Nat} (hk:k.key u.1 u.2=(A,B)) (hne:k.img u.1≠k.other u.1 u.2):
  (k.le B u).1≤1∧(if(k.le B u).1=0 then A else B)=k.img u.1∧mm (htC l (k.img u.1) (k.le B u).2.1,htC l (k.img u.1) (k.le B u).2.2)=k.hL l u∧(((k.le B u).2.1=u.1∧(k.le B u).2.2=k.nb u)∨((k.le B u).2.1=k.nb u∧(k.le B u).2.2=u.1))∧((k.le B u).1=0↔k.img u.1=A):=by
 have hs:((if k.img u.1=B then 1 else 0:Nat)≤1)∧(if(if k.img u.1=B then 1 else 0:Nat)=0 then A else B)=k.img u.1∧((if k.img u.1=B then 1 else 0:Nat)=0↔k.img u.1=A):=by
  rcases Ny k u with e|e
  ·rw[e]at hk;injection hk with h1 h2;rw[h1,h2]at hne;rw[if_neg (by rw[h1];exact hne)];exact⟨Ci,by rw[if_pos rfl,h1],by simp[h1]⟩
  ·rw[e]at hk;injection hk with h1 h2;rw[h1,h2]at hne;rw[if_pos h2];exact⟨Ci,by rw[if_neg Ci,h2],by simp[h2,hne]⟩
 unfold Lk.le
 split
 ·exact⟨hs.1,hs.2.1,rfl,.inl ⟨rfl,rfl⟩,hs.2.2⟩
 ·exact⟨hs.1,hs.2.1,Al4 _ _,.inr ⟨rfl,rfl⟩,hs.2.2⟩
structure NC (k:Lk) (l:List Stk):Prop where
 ps:∀u,k.reg u→Cx k.cr u.1 u.2=0→0≤k.hU l (k.img u.1) u∧0≤k.hU l (k.other u.1 u.2) u
 ls:∀u,k.reg u→Cx k.cr u.1 u.2≠0→0≤htC l (k.img u.1) u.1∧0≤htC l (k.img u.1) (k.nb u)
 pp:∀u v,k.reg u→k.reg v→Cx k.cr u.1 u.2=0→Cx k.cr v.1 v.2=0→k.key u.1 u.2=k.key v.1 v.2→¬(k.hU l (k.key u.1 u.2).1 u<k.hU l (k.key u.1 u.2).1 v∧k.hU l (k.key u.1 u.2).2 v<k.hU l (k.key u.1 u.2).2 u)
 pl:∀u v,k.reg u→k.reg v→Cx k.cr u.1 u.2=0→Cx k.cr v.1 v.2≠0→k.key u.1 u.2=k.key v.1 v.2→¬((k.hL l v).1<k.hU l (k.img v.1) u∧k.hU l (k.img v.1) u<(k.hL l v).2)
 ll:∀u v,k.reg u→k.reg v→Cx k.cr u.1 u.2≠0→Cx k.cr v.1 v.2≠0→k.key u.1 u.2=k.key v.1 v.2→k.img u.1=k.img v.1→Jy (k.hL l u) (k.hL l v)=false
theorem Aa7 {k:Lk} {u:Nat×Nat} (h:k.reg u):3*u.1+u.2<3*Cq k.a k.b:=by
 have:=h.1;have:=h.2.1;omega
theorem Ai1 {k:Lk} {l:List Stk} (hne:∀u,k.reg u→k.img u.1≠k.other u.1 u.2) (h:∀s∈k.seams,kE l s):NC k l:=by
 have at':∀u,k.reg u→∃s∈k.seams,k.key u.1 u.2=(s.a,s.b)∧(Cx k.cr u.1 u.2=0→k.pe s.b u∈s.ps)∧(Cx k.cr u.1 u.2≠0→k.le s.b u∈s.ls):=λu hu=>Za k _ u hu.1 (Aa7 hu) hu.2.2
 have two:∀u v,k.reg u→k.reg v→k.key u.1 u.2=k.key v.1 v.2→∃s∈k.seams,k.key u.1 u.2=(s.a,s.b)∧k.key v.1 v.2=(s.a,s.b)∧(Cx k.cr u.1 u.2=0→k.pe s.b u∈s.ps)∧(Cx k.cr u.1 u.2≠0→k.le s.b u∈s.ls)∧(Cx k.cr v.1 v.2=0→k.pe s.b v∈s.ps)∧(Cx k.cr v.1 v.2≠0→k.le s.b v∈s.ls):=λu v hu hv e=>by
  obtain⟨s,hs,h1,h2,h3⟩:=at' u hu;obtain⟨t,ht,g1,g2,g3⟩:=at' v hv;obtain rfl:=Ac0 k hs ht (h1.symm.trans (e.trans g1));exact⟨s,hs,h1,g1,h2,h3,g2,g3⟩
 refine⟨λu hu h0=>?_,λu hu h0=>?_,λu v hu hv hu0 hv0 e=>?_,λu v hu hv hu0 hv0 e=>?_,λu v hu hv hu0 hv0 e ei=>?_⟩
 ·obtain⟨s,hs,h1,h2,-⟩:=at' u hu;have g:=(h s hs).ps _ (h2 h0);obtain⟨p1,p2⟩:=iI k l h1 (hne u hu);rw[p1,p2]at g;rcases Ny k u with e|e
  ·rw[e]at h1;injection h1 with e1 e2;rw[e1,e2];exact g
  ·rw[e]at h1;injection h1 with e1 e2;rw[e1,e2];exact g.symm
 ·obtain⟨s,hs,h1,-,h3⟩:=at' u hu;have g:=(h s hs).ls _ (h3 h0);obtain⟨p1,p2,p3,p4,p5⟩:=gG k l h1 (hne u hu);rw[p2]at g;rcases p4 with⟨e1,e2⟩|⟨e1,e2⟩<;>rw[e1,e2]at g
  ·exact g.2
  ·exact g.2.symm
 ·obtain⟨s,hs,h1,g1,h2,-,g2,-⟩:=two u v hu hv e;have g:=(h s hs).pp _ (h2 hu0) _ (g2 hv0);obtain⟨p1,p2⟩:=iI k l h1 (hne u hu);obtain⟨q1,q2⟩:=iI k l g1 (hne v hv);rw[p1,p2,q1,q2]at g;rw[h1];exact g
 ·obtain⟨s,hs,h1,g1,h2,-,-,g3⟩:=two u v hu hv e;have g:=(h s hs).pl _ (h2 hu0) _ (g3 hv0);obtain⟨p1,p2⟩:=iI k l h1 (hne u hu);obtain⟨q1,q2,q3,q4,q5⟩:=gG k l g1 (hne v hv);rw[p1,p2,q2]at g
  have e3:(if(k.le s.b v).1=0 then k.hU l s.a u else k.hU l s.b u)=k.hU l (k.img v.1) u:=by
   rw[←q2]
   split<;>rfl
  rw[e3]at g;unfold mm at q3;rw[←q3];exact g
 ·obtain⟨s,hs,h1,g1,-,h3,-,g3⟩:=two u v hu hv e;obtain⟨p1,p2,p3,p4,p5⟩:=gG k l h1 (hne u hu);obtain⟨q1,q2,q3,q4,q5⟩:=gG k l g1 (hne v hv)
  have es:(k.le s.b u).1=(k.le s.b v).1:=by
   rw[ei]at p5;have:(k.le s.b u).1=0↔(k.le s.b v).1=0:=p5.trans q5.symm;omega
  have g:=(h s hs).ll _ (h3 hu0) _ (g3 hv0) es;rw[p2,p3,ei,q3]at g;exact g
theorem Am4 {k:Lk} {l:List Stk} (hne:∀u,k.reg u→k.img u.1≠k.other u.1 u.2) (h:NC k l):∀s∈k.seams,kE l s:=λs hs=>by
 obtain⟨f1,f2⟩:=Rv k _ s hs;have rg:∀u:Nat×Nat,u.2<3→3*u.1+u.2<3*Cq k.a k.b→k.cnt u→k.reg u:=λu h1 h2 h3=>⟨h1,Ci,h3⟩;refine⟨λp hp=>?_,λx hx=>?_,λp hp x hx=>?_,λx hx y hy e=>?_,λp hp q hq=>?_⟩
 ·obtain⟨u,a1,a2,a3,a4,a5,rfl⟩:=f1 p hp;have hu:=rg u a1 a2 a4;obtain⟨p1,p2⟩:=iI k l a3 (hne u hu);have g:=h.ps u hu a5;rw[p1,p2];rcases Ny k u with e|e
  ·rw[e]at a3;injection a3 with e1 e2;rw[←e1,←e2];exact g
  ·rw[e]at a3;injection a3 with e1 e2;rw[←e1,←e2];exact g.symm
 ·obtain⟨u,a1,a2,a3,a4,a5,rfl⟩:=f2 x hx;have hu:=rg u a1 a2 a4;obtain⟨p1,p2,p3,p4,p5⟩:=gG k l a3 (hne u hu);have g:=h.ls u hu a5;refine⟨p1,?_⟩;rw[p2];rcases p4 with⟨e1,e2⟩|⟨e1,e2⟩<;>rw[e1,e2]
  ·exact g
  ·exact g.symm
 ·obtain⟨u,a1,a2,a3,a4,a5,rfl⟩:=f1 p hp;obtain⟨v,b1,b2,b3,b4,b5,rfl⟩:=f2 x hx;have hu:=rg u a1 a2 a4;have hv:=rg v b1 b2 b4;obtain⟨p1,p2⟩:=iI k l a3 (hne u hu);obtain⟨q1,q2,q3,q4,q5⟩:=gG k l b3 (hne v hv);have g:=h.pl u v hu hv a5 b5 (a3.trans b3.symm)
  have e3:(if(k.le s.b v).1=0 then k.hU l s.a u else k.hU l s.b u)=k.hU l (k.img v.1) u:=by
   rw[←q2]
   split<;>rfl
  rw[p1,p2,q2,e3];unfold mm at q3;rw[←q3]at g;exact g
 ·obtain⟨u,a1,a2,a3,a4,a5,rfl⟩:=f2 x hx;obtain⟨v,b1,b2,b3,b4,b5,rfl⟩:=f2 y hy;have hu:=rg u a1 a2 a4;have hv:=rg v b1 b2 b4;obtain⟨p1,p2,p3,p4,p5⟩:=gG k l a3 (hne u hu);obtain⟨q1,q2,q3,q4,q5⟩:=gG k l b3 (hne v hv);have ei:k.img u.1=k.img v.1:=by rw[←p2,←q2,e]
  have g:=h.ll u v hu hv a5 b5 (a3.trans b3.symm) ei;rw[p2,p3,ei,q3];exact g
 ·obtain⟨u,a1,a2,a3,a4,a5,rfl⟩:=f1 p hp;obtain⟨v,b1,b2,b3,b4,b5,rfl⟩:=f1 q hq;have hu:=rg u a1 a2 a4;have hv:=rg v b1 b2 b4;obtain⟨p1,p2⟩:=iI k l a3 (hne u hu);obtain⟨q1,q2⟩:=iI k l b3 (hne v hv);have g:=h.pp u v hu hv a5 b5 (a3.trans b3.symm);rw[a3]at g;rw[p1,p2,q1,q2];exact g
theorem Xh {k:Lk} {l:List Stk} (hne:∀u,k.reg u→k.img u.1≠k.other u.1 u.2):k.seams.any (Fh l)=false↔NC k l:=by
 rw[List.any_eq_false]
 constructor
 ·exact λh=>Ai1 hne λs hs=>Xg.1 (by simpa using h s hs)
 ·exact λh s hs=>by simpa using Xg.2 (Am4 hne h s hs)
theorem Sb (c:Cl):atF [] c=[]:=rfl
theorem Gf (x:Stk) (r:List Stk) (c:Cl):atF (x::r) c=if x.c=c then x.ls else atF r c:=by
 unfold atF;rw[List.find?_cons];by_cases h:x.c=c
 ·simp[h]
 ·simp[h]
theorem Ou {l:List Stk} {c:Cl} (h:c∉l.map (·.c)):atF l c=[]:=by
 induction l with
 |nil=>rfl
 |cons x r ih=>
  rw[List.map_cons,Bk,not_or]at h;rw[Gf,if_neg (λe=>h.1 e.symm),ih h.2]
theorem Hm {l:List Stk} {x:Stk} (hn:(l.map (·.c)).Nodup) (hx:x∈l):atF l x.c=x.ls:=by
 induction l with
 |nil=>simp at hx
 |cons y r ih=>
  rw[List.map_cons,List.nodup_cons]at hn;rw[Gf];rcases Bk.1 hx with rfl|hx
  ·rw[if_pos rfl]
  ·rw[if_neg (λe=>hn.1 (by rw[e];exact List.mem_map.2 ⟨x,hx,rfl⟩)),ih hn.2 hx]
theorem eL {l l':List Stk} (hp:l.Perm l') (hn:(l.map (·.c)).Nodup) (c:Cl):atF l c=atF l' c:=by
 have hn':(l'.map (·.c)).Nodup:=(hp.map _).nodup_iff.1 hn;by_cases h:c∈l.map (·.c)
 ·obtain⟨x,hx,rfl⟩:=List.mem_map.1 h;rw[Hm hn hx,Hm hn' (hp.mem_iff.1 hx)]
 ·rw[Ou h,Ou λh2=>h ((hp.map _).mem_iff.2 h2)]
theorem eJ (x:Stk) (c:Cl):∀l:List Stk,atF (Il x l) c=if x.c=c then atF l c++x.ls else atF l c
 |[]=>by
  unfold Il;rw[Gf,Sb]
  split<;>simp
 |y::r=>by
  unfold Il
  split
  ·rename_i h;rw[Gf,Gf];dsimp only;by_cases hc:x.c=c
   ·rw[if_pos hc,if_pos (h.trans hc),if_pos (h.trans hc)]
   ·rw[if_neg hc,if_neg (by rw[h];exact hc),if_neg (by rw[h];exact hc)]
  ·rename_i h;rw[Gf,Gf,eJ x c r];by_cases hc:x.c=c
   ·rw[if_pos hc,if_pos hc];have:¬y.c=c:=λe=>h (e.trans hc.symm);rw[if_neg this,if_neg this]
   ·rw[if_neg hc,if_neg hc]
theorem eK (c:Cl):∀(L o:List Stk),atF (L.foldl (λo x=>if x.ls.isEmpty then o else Il x o) o) c=atF o c++(L.filter λx=>decide (x.c=c)).flatMap (·.ls)
 |[],o=>Cn
 |x::r,o=>by
  rw[List.foldl_cons,eK c r,List.filter_cons];by_cases he:x.ls.isEmpty=true
  ·rw[if_pos he];have h0:x.ls=[]:=by simpa using he
   split<;>simp[h0]
  ·rw[if_neg he,eJ];by_cases hc:x.c=c
   ·rw[if_pos hc,if_pos (by simp[hc]),Bf,Bj]
   ·rw[if_neg hc,if_neg (by simp[hc])]
theorem Sf (c:Cl):∀{l:List Stk},(l.map (·.c)).Nodup→(l.filter λx=>decide (x.c=c)).flatMap (·.ls)=atF l c
 |[],_=>rfl
 |x::r,hn=>by
  rw[List.map_cons,List.nodup_cons]at hn;rw[List.filter_cons,Gf];by_cases hc:x.c=c
  ·rw[if_pos (by simp[hc]),if_pos hc,Bf,Sf c hn.2,Ou (by rw[←hc];exact hn.1),List.append_nil]
  ·rw[if_neg (by simp[hc]),if_neg hc,Sf c hn.2]
theorem Tf (l h:List Stk):Ev l h=Iw (Gk (l++h)):=rfl
theorem Ua {l h:List Stk} (hl:(l.map (·.c)).Nodup) (hh:(h.map (·.c)).Nodup) (c:Cl):atF (Ev l h) c=atF l c++atF h c:=by
 rw[Tf,eL (Ei _) (((Ei _).map _).nodup_iff.2 (Pd _))];unfold Gk;rw[eK,Sb,List.nil_append,List.filter_append,Bi,Sf c hl,Sf c hh]
theorem Uc (k c0:Int) (sd:Nat) (c:Cl):∀l:List Stk,atF (Dc k c0 sd l) c=if Dy k c0 c=sd then atF l c else[]
 |[]=>by
  unfold Dc;rw[List.filter_nil,Sb]
  split<;>rfl
 |x::r=>by
  have ih:=Uc k c0 sd c r;unfold Dc at ih⊢;rw[List.filter_cons,Gf];by_cases hs:Dy k c0 x.c=sd
  ·rw[if_pos (by simp[hs]),Gf,ih];by_cases hc:x.c=c
   ·rw[if_pos hc,if_pos hc,if_pos (by rw[←hc];exact hs)]
   ·rw[if_neg hc,if_neg hc]
  ·rw[if_neg (by simp[hs]),ih];by_cases hc:x.c=c
   ·rw[if_neg (by rw[←hc];exact hs),if_neg (by rw[←hc];exact hs)]
   ·rw[if_neg hc]
theorem pL (c:Cl):∀l:List Stk,atF (Hq l) c=(atF l c).reverse
 |[]=>rfl
 |x::r=>by
  have ih:=pL c r;unfold Hq at ih⊢;rw[List.map_cons,Gf,Gf,ih];dsimp only
  split<;>rfl
theorem pK {g:Cl→Cl} {c:Cl}:∀{l:List Stk},(∀x∈l,g x.c=g c→x.c=c)→atF (l.map λx=>⟨g x.c,x.ls⟩) (g c)=atF l c
 |[],_=>rfl
 |x::r,h=>by
  rw[List.map_cons,Gf,Gf,pK λy hy=>h y (List.mem_cons_of_mem _ hy)];dsimp only;by_cases hc:x.c=c
  ·rw[if_pos hc,if_pos (by rw[hc])]
  ·rw[if_neg hc,if_neg λe=>hc (h x Cn e)]
theorem Hv (x:Nat) (r:List Nat) (v:Nat):Gh (x::r) v=if x=v then 0 else if v∈r then Gh r v+1 else-1:=by
 unfold Gh;rw[List.findIdx?_cons];by_cases h:x=v
 ·simp[h]
 ·rw[if_neg h];simp only[h,decide_false];by_cases hv:v∈r
  ·rw[if_pos hv]
   cases hf:r.findIdx? λx=>decide (x=v)with
   |none=>
    rw[List.findIdx?_eq_none_iff]at hf;have:=hf v hv;simp at this
   |some i=>simp
  ·rw[if_neg hv]
   have:r.findIdx? (λx=>decide (x=v))=Ae:=by
    rw[List.findIdx?_eq_none_iff];intro y hy;have hne:y≠v:=λe=>hv (e▸hy);simp[hne]
   rw[this];rfl
theorem Np:∀{l:List Nat} {v:Nat},v∈l→0≤Gh l v∧Gh l v<l.length
 |[],v,h=>by simp at h
 |x::r,v,h=>by
  rw[Hv,List.length_cons];by_cases e:x=v
  ·rw[if_pos e];omega
  ·have hr:v∈r:=by
    rcases Bk.1 h with rfl|h
    ·exact absurd rfl e
    ·exact h
   have:=Np hr;rw[if_neg e,if_pos hr];omega
theorem Aa1 {l:List Nat} {v:Nat} (h:v∉l):Gh l v= -1:=by
 cases l with
 |nil=>rfl
 |cons x r=>
  rw[Bk,not_or]at h;rw[Hv,if_neg (λe=>h.1 e.symm),if_neg h.2]
theorem iM {l:List Nat} {v:Nat}:0≤Gh l v↔v∈l:=by
 constructor
 ·intro h;by_cases hv:v∈l
  ·exact hv
  ·rw[Aa1 hv]at h;omega
 ·exact λh=>(Np h).1
theorem Uw {l1 l2:List Nat} {v:Nat} (h:v∈l1):Gh (l1++l2) v=Gh l1 v:=by
 induction l1 with
 |nil=>simp at h
 |cons x r ih=>
  rw[List.cons_append,Hv,Hv];by_cases e:x=v
  ·rw[if_pos e,if_pos e]
  ·have hr:v∈r:=by
    rcases Bk.1 h with rfl|h
    ·exact absurd rfl e
    ·exact h
   rw[if_neg e,if_neg e,if_pos (by simp[hr]),if_pos hr,ih hr]
theorem Rq {l1 l2:List Nat} {v:Nat} (h1:v∉l1) (h:v∈l2):Gh (l1++l2) v=l1.length+Gh l2 v:=by
 induction l1 with
 |nil=>simp
 |cons x r ih=>
  rw[Bk,not_or]at h1;rw[List.cons_append,Hv,if_neg (λe=>h1.1 e.symm),if_pos (by simp[h]),ih h1.2,List.length_cons];omega
theorem dT {l:List Nat} (hn:l.Nodup) {v:Nat} (h:v∈l):Gh l.reverse v=l.length-1-Gh l v:=by
 induction l with
 |nil=>simp at h
 |cons x r ih=>
  rw[List.nodup_cons]at hn;rw[List.reverse_cons,Hv,List.length_cons];by_cases e:x=v
  ·subst e;rw[if_pos rfl,Rq (by simpa using hn.1) Cn,Hv,if_pos rfl,List.length_reverse];omega
  ·have hr:v∈r:=by
    rcases Bk.1 h with rfl|h
    ·exact absurd rfl e
    ·exact h
   rw[if_neg e,if_pos hr,Uw (by simpa using hr),ih hn.2 hr];omega
theorem Aa0 {l:List Nat} {u v:Nat} (hu:u∈l) (h:Gh l u=Gh l v):u=v:=by
 induction l with
 |nil=>simp at hu
 |cons x r ih=>
  rw[Hv,Hv]at h;by_cases e:x=u
  ·rw[if_pos e]at h;by_cases e2:x=v
   ·exact e.symm.trans e2
   ·rw[if_neg e2]at h
    split at h
    ·rename_i hv;have:=(Np hv).1;omega
    ·omega
  ·have hr:u∈r:=by
    rcases Bk.1 hu with rfl|hu
    ·exact absurd rfl e
    ·exact hu
   rw[if_neg e,if_pos hr]at h;have:=(Np hr).1;by_cases e2:x=v
   ·rw[if_pos e2]at h;omega
   ·rw[if_neg e2]at h
    split at h
    ·exact ih hr Ci
    ·omega
def Rz (nb:Nat×Nat→Nat) (u:Nat×Nat) (x y:Nat):Prop:=(x=u.1∧y=nb u)∨(x=nb u∧y=u.1)
def Ls (a b c d:Int):Prop:=(min a b<min c d∧min c d<max a b∧max a b<max c d)∨(min c d<min a b∧min a b<max c d∧max c d<max a b)
structure NC2 (reg:Nat×Nat→Prop) (nb:Nat×Nat→Nat) (kd:Nat×Nat→Bool) (img:Nat→Cl) (oth:Nat×Nat→Cl) (h:Nat→Int):Prop where
 pp:∀u v x y z w,reg u→reg v→kd u=false→kd v=false→Rz nb u x y→Rz nb v z w→img x=img z→img y=img w→¬(h x<h z∧h w<h y)
 pl:∀u v x y,reg u→reg v→kd u=false→kd v=true→Rz nb u x y→img x=img v.1→img y=oth v→¬(min (h v.1) (h (nb v))<h x∧h x<max (h v.1) (h (nb v)))
 ll:∀u v,reg u→reg v→kd u=true→kd v=true→img u.1=img v.1→oth u=oth v→¬Ls (h u.1) (h (nb u)) (h v.1) (h (nb v))
structure Mn (img img':Nat→Cl) (h h':Nat→Int) (len:Cl→Int) (R:Cl→Cl) (sd:Cl→Bool) (over:Bool) (i:Nat):Prop where
 im:img' i=if sd (img i)then R (img i)else img i
 inv:R (R (img i))=img i
 side:sd (R (img i))= !sd (img i)
 ht:h' i=if sd (img i)then (if over then len (R (img i))else 0)+(len (img i)-1-h i)else (if over then 0 else len (R (img i)))+h i
 bd:0≤h i∧h i<len (img i)
section
variable {img img':Nat→Cl} {h h':Nat→Int} {len:Cl→Int} {R:Cl→Cl} {sd:Cl→Bool} {over:Bool} {i:Nat}
theorem Mn.stay (F:Mn img img' h h' len R sd over i) (hs:sd (img i)=false):img' i=img i∧sd (img' i)=false∧h' i=(if over then 0 else len (R (img' i)))+h i∧0≤h i∧h i<len (img' i):=by
 have h1:=F.im;have h2:=F.ht;rw[hs]at h1 h2;have e:img' i=img i:=h1;rw[e];exact⟨rfl,hs,h2,F.bd⟩
theorem Mn.moved (F:Mn img img' h h' len R sd over i) (hs:sd (img i)=true):img' i=R (img i)∧img i=R (img' i)∧sd (img' i)=false∧h' i=(if over then len (img' i)else 0)+(len (R (img' i))-1-h i)∧0≤h i∧h i<len (R (img' i)):=by
 have h1:=F.im;have h2:=F.ht;have h3:=F.side;rw[hs]at h1 h2 h3;have e:img' i=R (img i):=h1;have e2:R (img' i)=img i:=by rw[e,F.inv]
 rw[e2,e];exact⟨rfl,rfl,h3,h2,F.bd⟩
end
theorem Ls.swap {a b c d:Int}:Ls a b c d↔Ls b a c d:=by
 unfold Ls;rw[Int.min_comm,Int.max_comm]
theorem Ls.comm {a b c d:Int}:Ls a b c d↔Ls c d a b:=by
 unfold Ls;exact Or.comm
theorem zN {reg:Nat×Nat→Prop} {nb:Nat×Nat→Nat} {kd kd':Nat×Nat→Bool} {img img':Nat→Cl} {oth oth':Nat×Nat→Cl} {h h':Nat→Int} {len:Cl→Int} {R:Cl→Cl} {sd:Cl→Bool} {over:Bool}
  (H:NC2 reg nb kd img oth h) (FA:∀u,reg u→Mn img img' h h' len R sd over u.1∧Mn img img' h h' len R sd over (nb u))
  (p0:∀u,reg u→kd u=false→oth u=img (nb u)) (l0:∀u,reg u→kd u=true→img (nb u)=img u.1)
  (ho:∀u,reg u→oth' u=if sd (img u.1)then R (oth u)else oth u) (hio:∀u,reg u→R (R (oth u))=oth u)
  (hk:∀u,reg u→kd' u=(kd u||(sd (img u.1) != sd (img (nb u)))))
  (hx:∀u,reg u→kd u=false→sd (img u.1)≠sd (img (nb u))→R (img u.1)=img (nb u)):NC2 reg nb kd' img' oth' h':=by
 have FE:∀u x y,reg u→Rz nb u x y→Mn img img' h h' len R sd over x∧Mn img img' h h' len R sd over y:=λu x y hu he=>by
  rcases he with⟨rfl,rfl⟩|⟨rfl,rfl⟩
  ·exact FA u hu
  ·exact(FA u hu).symm
 have ps:∀u,reg u→kd' u=false→kd u=false∧sd (img u.1)=sd (img (nb u)):=λu hu h0=>by
  have:=hk u hu;rw[h0]at this
  cases hkd:kd u<;>rw[hkd]at this
  ·exact⟨rfl,by simpa using this⟩
  ·simp at this
 have pe:∀u x y,reg u→kd' u=false→Rz nb u x y→sd (img x)=sd (img y):=λu x y hu h0 he=>by
  have:=(ps u hu h0).2;rcases he with⟨rfl,rfl⟩|⟨rfl,rfl⟩
  ·exact this
  ·exact this.symm
 have nw:∀u,reg u→kd u=false→sd (img u.1)≠sd (img (nb u))→∃x y,Rz nb u x y∧sd (img x)=false∧sd (img y)=true∧img x=img' u.1∧img y=R (img' u.1)∧img' x=img' u.1∧img' y=img' u.1∧oth' u=R (img' u.1):=λu hu h0 hs=>by
  obtain⟨F1,F2⟩:=FA u hu;have e0:=hx u hu h0 hs;have eo:=ho u hu;rw[p0 u hu h0]at eo
  cases s1:sd (img u.1)with
  |false=>
   have s2:sd (img (nb u))=true:=by
    rw[s1]at hs
    cases h:sd (img (nb u))
    ·rw[h]at hs;exact absurd rfl hs
    ·rfl
   obtain⟨a1,-⟩:=F1.stay s1;obtain⟨b1,b2,-⟩:=F2.moved s2;rw[s1]at eo;have e1:img' (nb u)=img' u.1:=by rw[b1,a1,←e0,F1.inv]
   exact⟨u.1,nb u,.inl ⟨rfl,rfl⟩,s1,s2,a1.symm,by rw[a1,e0],rfl,e1,by rw[a1,e0];exact eo⟩
  |true=>
   have s2:sd (img (nb u))=false:=by
    rw[s1]at hs
    cases h:sd (img (nb u))
    ·rfl
    ·rw[h]at hs;exact absurd rfl hs
   obtain⟨a1,a2,-⟩:=F1.moved s1;obtain⟨b1,-⟩:=F2.stay s2;rw[s1]at eo;have e1:img' (nb u)=img' u.1:=by rw[b1,a1,e0]
   exact⟨nb u,u.1,.inr ⟨rfl,rfl⟩,s2,s1,by rw[a1,e0],a2,e1,rfl,by rw[a1,e0];exact eo⟩
 have ol:∀u,reg u→kd u=true→sd (img (nb u))=sd (img u.1):=λu hu h0=>by rw[l0 u hu h0]
 have cs:∀u,reg u→kd' u=true→kd u=true∨(kd u=false∧sd (img u.1)≠sd (img (nb u))):=λu hu h0=>by
  have:=hk u hu;rw[h0]at this
  cases hkd:kd u with
  |true=>exact .inl rfl
  |false=>
   rw[hkd]at this;refine .inr ⟨rfl,λe=>?_⟩;rw[e]at this;simp at this
 have nh:∀u,reg u→kd u=false→sd (img u.1)≠sd (img (nb u))→∃x y,Rz nb u x y∧Rz nb u y x∧img x=img' u.1∧img y=R (img' u.1)∧R (R (img' u.1))=img' u.1∧oth' u=R (img' u.1)∧
   h' x=(if over then 0 else len (R (img' u.1)))+h x∧0≤h x∧h x<len (img' u.1)∧h' y=(if over then len (img' u.1)else 0)+(len (R (img' u.1))-1-h y)∧0≤h y∧h y<len (R (img' u.1))∧∀c d,Ls (h' u.1) (h' (nb u)) c d↔Ls (h' x) (h' y) c d:=λu hu h0 hs=>by
  obtain⟨x,y,hab,sx,sy,e1,e2,e3,e4,e5⟩:=nw u hu h0 hs;obtain⟨Fx,Fy⟩:=FE u x y hu hab;obtain⟨-,-,x2,x3,x4⟩:=Fx.stay sx;obtain⟨-,-,-,y2,y3,y4⟩:=Fy.moved sy;rw[e3]at x2 x4;rw[e4]at y2 y4;refine⟨x,y,hab,hab.elim (λh=> .inr ⟨h.2,h.1⟩) (λh=> .inl ⟨h.2,h.1⟩),e1,e2,by rw[←e1,Fx.inv],e5,x2,x3,x4,y2,y3,y4,λc d=>?_⟩;rcases hab with⟨rfl,rfl⟩|⟨rfl,rfl⟩
  ·exact Iff.rfl
  ·exact Ls.swap
 have no:∀u v,reg u→reg v→kd u=false→sd (img u.1)≠sd (img (nb u))→kd v=true→img' u.1=img' v.1→oth' u=oth' v→¬Ls (h' u.1) (h' (nb u)) (h' v.1) (h' (nb v)):=λu v hu hv hu0 hs kv ei eo=>by
  obtain⟨x,y,hxy,hyx,e1,e2,e3,e4,x2,x3,x4,y2,y3,y4,hi⟩:=nh u hu hu0 hs;obtain⟨F1,F2⟩:=FA v hv;have sv:=ol v hv kv;have ev:=ho v hv;rw[hi];unfold Ls;rw[ei]at e1 e2 e3 e4 x2 x4 y2 y4
  cases s2:sd (img v.1)with
  |false=>
   obtain⟨z1,-,z2,z3,z4⟩:=F1.stay s2;obtain⟨w1,-,w2,w3,w4⟩:=F2.stay (sv.trans s2);have e9:img' (nb v)=img' v.1:=by rw[w1,z1,l0 v hv kv]
   rw[e9]at w2 w4;rw[s2]at ev;have ev:oth' v=oth v:=ev;have g:=H.pl u v x y hu hv hu0 kv hxy (by rw[e1,z1]) (by rw[e2,←e4,eo,ev])
   cases over<;>simp at x2 y2 z2 w2<;>omega
  |true=>
   obtain⟨z1,z5,-,z2,z3,z4⟩:=F1.moved s2;obtain⟨w1,w5,-,w2,w3,w4⟩:=F2.moved (sv.trans s2);have e9:img' (nb v)=img' v.1:=by rw[w1,z1,l0 v hv kv]
   rw[e9]at w2 w4;rw[s2]at ev;have ev:oth' v=R (oth v):=ev;have g:=H.pl u v y x hu hv hu0 kv hyx (by rw[e2,z5]) (by rw[e1,←hio v hv,←ev,←eo,e4,e3])
   cases over<;>simp at x2 y2 z2 w2<;>omega
 refine⟨λu v x y z w hu hv hu0 hv0 eu ev exz eyw=>?_,λu v x y hu hv hu0 hv0 eu exv eyo=>?_,λu v hu hv hu0 hv0 ei eo=>?_⟩
 ·obtain⟨Fx,Fy⟩:=FE u x y hu eu;obtain⟨Fz,Fw⟩:=FE v z w hv ev;have ku:=ps u hu hu0;have kv:=ps v hv hv0;have su:=pe u x y hu hu0 eu;have sv:=pe v z w hv hv0 ev
  cases s1:sd (img x)with
  |false=>
   obtain⟨x1,-,x2,x3,x4⟩:=Fx.stay s1;obtain⟨y1,-,y2,y3,y4⟩:=Fy.stay (su▸s1)
   cases s2:sd (img z)with
   |false=>
    obtain⟨z1,-,z2,z3,z4⟩:=Fz.stay s2;obtain⟨w1,-,w2,w3,w4⟩:=Fw.stay (sv▸s2);have g:=H.pp u v x y z w hu hv ku.1 kv.1 eu ev (by rw[←x1,←z1,exz]) (by rw[←y1,←w1,eyw]);rw[exz]at x2;rw[eyw]at y2;omega
   |true=>
    obtain⟨z1,z5,-,z2,z3,z4⟩:=Fz.moved s2;obtain⟨w1,w5,-,w2,w3,w4⟩:=Fw.moved (sv▸s2);rw[exz]at x2 x4;rw[eyw]at y2 y4
    cases over<;>simp at x2 y2 z2 w2<;>omega
  |true=>
   obtain⟨x1,x5,-,x2,x3,x4⟩:=Fx.moved s1;obtain⟨y1,y5,-,y2,y3,y4⟩:=Fy.moved (su▸s1)
   cases s2:sd (img z)with
   |false=>
    obtain⟨z1,-,z2,z3,z4⟩:=Fz.stay s2;obtain⟨w1,-,w2,w3,w4⟩:=Fw.stay (sv▸s2);rw[exz]at x2 x4;rw[eyw]at y2 y4
    cases over<;>simp at x2 y2 z2 w2<;>omega
   |true=>
    obtain⟨z1,z5,-,z2,z3,z4⟩:=Fz.moved s2;obtain⟨w1,w5,-,w2,w3,w4⟩:=Fw.moved (sv▸s2);have g:=H.pp v u z w x y hv hu kv.1 ku.1 ev eu (by rw[z5,x5,exz]) (by rw[w5,y5,eyw]);rw[exz]at x2;rw[eyw]at y2;omega
 ·obtain⟨Fx,Fy⟩:=FE u x y hu eu;obtain⟨F1,F2⟩:=FA v hv;have ku:=ps u hu hu0;have su:=pe u x y hu hu0 eu
  have sy:sd (img' y)=false:=by
   cases s:sd (img y)with
   |false=>exact(Fy.stay s).2.1
   |true=>exact(Fy.moved s).2.2.1
  rcases cs v hv hv0 with kv|⟨kv,hs⟩
  ·have sv:=ol v hv kv;have ev:=ho v hv
   cases s1:sd (img x)with
   |false=>
    obtain⟨x1,-,x2,x3,x4⟩:=Fx.stay s1;obtain⟨y1,-⟩:=Fy.stay (su▸s1)
    cases s2:sd (img v.1)with
    |false=>
     obtain⟨z1,-,z2,z3,z4⟩:=F1.stay s2;obtain⟨w1,-,w2,w3,w4⟩:=F2.stay (sv.trans s2);rw[s2]at ev;have g:=H.pl u v x y hu hv ku.1 kv eu (by rw[←x1,←z1,exv]) (by rw[←y1,eyo];exact ev);have e9:img' (nb v)=img' v.1:=by rw[w1,z1,l0 v hv kv]
     rw[exv]at x2;rw[e9]at w2;omega
    |true=>
     obtain⟨z1,z5,-,z2,z3,z4⟩:=F1.moved s2;obtain⟨w1,w5,-,w2,w3,w4⟩:=F2.moved (sv.trans s2);have e9:img' (nb v)=img' v.1:=by rw[w1,z1,l0 v hv kv]
     rw[exv]at x2 x4;rw[e9]at w2 w4
     cases over<;>simp at x2 z2 w2<;>omega
   |true=>
    obtain⟨x1,x5,-,x2,x3,x4⟩:=Fx.moved s1;obtain⟨y1,y5,-⟩:=Fy.moved (su▸s1)
    cases s2:sd (img v.1)with
    |false=>
     obtain⟨z1,-,z2,z3,z4⟩:=F1.stay s2;obtain⟨w1,-,w2,w3,w4⟩:=F2.stay (sv.trans s2);have e9:img' (nb v)=img' v.1:=by rw[w1,z1,l0 v hv kv]
     rw[exv]at x2 x4;rw[e9]at w2 w4
     cases over<;>simp at x2 z2 w2<;>omega
    |true=>
     obtain⟨z1,z5,-,z2,z3,z4⟩:=F1.moved s2;obtain⟨w1,w5,-,w2,w3,w4⟩:=F2.moved (sv.trans s2);rw[s2]at ev;have ev:oth' v=R (oth v):=ev;have g:=H.pl u v x y hu hv ku.1 kv eu (by rw[x5,z5,exv]) (by rw[y5,eyo,ev,hio v hv]);have e9:img' (nb v)=img' v.1:=by rw[w1,z1,l0 v hv kv]
     rw[exv]at x2;rw[e9]at w2;omega
  ·obtain⟨a,b,hab,-,sb,-,-,-,-,e9⟩:=nw v hv kv hs;exfalso;obtain⟨Fa,Fb⟩:=FE v a b hv hab;rw[eyo,e9]at sy
   have h1:sd (img' v.1)=false:=by
    cases s:sd (img v.1)with
    |false=>exact(F1.stay s).2.1
    |true=>exact(F1.moved s).2.2.1
   cases s:sd (img v.1)with
   |false=>
    have:=F1.side;rw[←(F1.stay s).1,sy,h1]at this;simp at this
   |true=>
    obtain⟨m1,m2,-⟩:=F1.moved s;rw[←m2,s]at sy
    cases sy
 ·obtain⟨Fu1,Fu2⟩:=FA u hu;obtain⟨Fv1,Fv2⟩:=FA v hv;rcases cs u hu hu0 with ku|⟨ku,su⟩
  ·have su:=ol u hu ku;have eou:=ho u hu;rcases cs v hv hv0 with kv|⟨kv,sv⟩
   ·have sv:=ol v hv kv;have eov:=ho v hv
    cases s1:sd (img u.1)with
    |false=>
     unfold Ls;obtain⟨x1,-,x2,x3,x4⟩:=Fu1.stay s1;obtain⟨y1,-,y2,y3,y4⟩:=Fu2.stay (su.trans s1);have e8:img' (nb u)=img' u.1:=by rw[y1,x1,l0 u hu ku]
     rw[e8]at y2 y4;rw[ei]at x2 x4 y2 y4
     cases s2:sd (img v.1)with
     |false=>
      obtain⟨z1,-,z2,z3,z4⟩:=Fv1.stay s2;obtain⟨w1,-,w2,w3,w4⟩:=Fv2.stay (sv.trans s2);have e9:img' (nb v)=img' v.1:=by rw[w1,z1,l0 v hv kv]
      rw[e9]at w2 w4;rw[s1]at eou;rw[s2]at eov;have eou:oth' u=oth u:=eou;have eov:oth' v=oth v:=eov;have g:=H.ll u v hu hv ku kv (by rw[←x1,←z1,ei]) (by rw[←eou,←eov,eo]);unfold Ls at g;omega
     |true=>
      obtain⟨z1,z5,-,z2,z3,z4⟩:=Fv1.moved s2;obtain⟨w1,w5,-,w2,w3,w4⟩:=Fv2.moved (sv.trans s2);have e9:img' (nb v)=img' v.1:=by rw[w1,z1,l0 v hv kv]
      rw[e9]at w2 w4
      cases over<;>simp at x2 y2 z2 w2<;>omega
    |true=>
     unfold Ls;obtain⟨x1,x5,-,x2,x3,x4⟩:=Fu1.moved s1;obtain⟨y1,y5,-,y2,y3,y4⟩:=Fu2.moved (su.trans s1);have e8:img' (nb u)=img' u.1:=by rw[y1,x1,l0 u hu ku]
     rw[e8]at y2 y4;rw[ei]at x2 x4 y2 y4
     cases s2:sd (img v.1)with
     |false=>
      obtain⟨z1,-,z2,z3,z4⟩:=Fv1.stay s2;obtain⟨w1,-,w2,w3,w4⟩:=Fv2.stay (sv.trans s2);have e9:img' (nb v)=img' v.1:=by rw[w1,z1,l0 v hv kv]
      rw[e9]at w2 w4
      cases over<;>simp at x2 y2 z2 w2<;>omega
     |true=>
      obtain⟨z1,z5,-,z2,z3,z4⟩:=Fv1.moved s2;obtain⟨w1,w5,-,w2,w3,w4⟩:=Fv2.moved (sv.trans s2);have e9:img' (nb v)=img' v.1:=by rw[w1,z1,l0 v hv kv]
      rw[e9]at w2 w4;rw[s1]at eou;rw[s2]at eov;have eou:oth' u=R (oth u):=eou;have eov:oth' v=R (oth v):=eov;have g:=H.ll u v hu hv ku kv (by rw[x5,z5,ei]) (by rw[←hio u hu,←hio v hv,←eou,←eov,eo]);unfold Ls at g;omega
   ·exact λhi=>no v u hv hu kv sv ku ei.symm eo.symm (Ls.comm.1 hi)
  ·rcases cs v hv hv0 with kv|⟨kv,sv⟩
   ·exact no u v hu hv ku su kv ei eo
   ·obtain⟨x,y,hxy,hyx,e1,e2,e3,e4,x2,x3,x4,y2,y3,y4,hi⟩:=nh u hu ku su;obtain⟨z,w,hzw,hwz,f1,f2,f3,f4,z2,z3,z4,w2,w3,w4,hj⟩:=nh v hv kv sv;intro hc;have hc:=(hi _ _).1 hc;have hc:=(hj _ _).1 (Ls.comm.1 hc);unfold Ls at hc;rw[ei]at e1 e2 x2 x4 y2 y4;have g1:=H.pp u v x y z w hu hv ku kv hxy hzw (by rw[e1,f1]) (by rw[e2,f2]);have g2:=H.pp v u z w x y hv hu kv ku hzw hxy (by rw[e1,f1]) (by rw[e2,f2])
    cases over<;>simp at x2 y2 z2 w2<;>omega
def tI (p q:Cl):Cl×Cl:=if 0<Fg p q then (q,p)else (p,q)
theorem tJ {p q:Cl} (h:p≠q):tI p q=tI q p:=by
 have e1:0<Fg p q↔Fg q p<0:=by
  have:=Se (a:=p) (b:=q);omega
 have e2:0<Fg q p↔Fg p q<0:=by
  have:=Se (a:=q) (b:=p);omega
 have tri:Fg p q<0∨Fg q p<0:=by
  rw[Eo,Eo];obtain⟨px,py,pq⟩:=p;obtain⟨qx,qy,qq⟩:=q;dsimp only;by_cases h1:px=qx
  ·by_cases h2:py=qy
   ·by_cases h3:pq=qq
    ·exact absurd (by rw[h1,h2,h3]) h
    ·omega
   ·omega
  ·omega
 have anti:¬(Fg p q<0∧Fg q p<0):=by
  have:=Se (a:=p) (b:=q);omega
 unfold tI;by_cases h0:Fg q p<0
 ·rw[if_pos (e1.2 h0),if_neg (λh2=>anti ⟨e2.1 h2,h0⟩)]
 ·rw[if_neg (λh2=>h0 (e1.1 h2)),if_pos (e2.2 (tri.resolve_right h0))]
theorem qI (k:Lk) (u:Nat×Nat):k.key u.1 u.2=tI (k.img u.1) (k.other u.1 u.2):=rfl
section
variable {k:Lk} {l:List Stk}
theorem Lc {u:Nat×Nat} {x y:Nat} (he:Rz k.nb u x y) (hne:k.img u.1≠k.img (k.nb u)):k.hU l (k.img x) u=htC l (k.img x) x:=by
 unfold Lk.hU;rcases he with⟨rfl,rfl⟩|⟨rfl,rfl⟩
 ·rw[if_pos rfl]
 ·rw[if_neg hne]
theorem Ba5 (p0:∀u,k.reg u→Cx k.cr u.1 u.2=0→k.other u.1 u.2=k.img (k.nb u)) (l0:∀u,k.reg u→Cx k.cr u.1 u.2≠0→k.img (k.nb u)=k.img u.1) (hne:∀u,k.reg u→k.img u.1≠k.other u.1 u.2) (H:NC k l):
  NC2 k.reg k.nb (λu=>decide (Cx k.cr u.1 u.2≠0)) k.img (λu=>k.other u.1 u.2) (λi=>htC l (k.img i) i):=by
 have z0:∀u:Nat×Nat,decide (Cx k.cr u.1 u.2≠0)=false→Cx k.cr u.1 u.2=0:=λu h=>Classical.not_not.1 (by simpa using h);have z1:∀u:Nat×Nat,decide (Cx k.cr u.1 u.2≠0)=true→Cx k.cr u.1 u.2≠0:=λu h=>by simpa using h
 have ke:∀u x y,k.reg u→Cx k.cr u.1 u.2=0→Rz k.nb u x y→k.key u.1 u.2=tI (k.img x) (k.img y)∧k.img x≠k.img y:=λu x y hu h0 he=>by
  have hn:=hne u hu;rw[p0 u hu h0]at hn;rw[qI,p0 u hu h0];rcases he with⟨rfl,rfl⟩|⟨rfl,rfl⟩
  ·exact⟨rfl,hn⟩
  ·exact⟨tJ hn,hn.symm⟩
 refine⟨λu v x y z w hu hv hu0 hv0 eu ev exz eyw hc=>?_,λu v x y hu hv hu0 hv0 eu exv eyo hc=>?_,λu v hu hv hu0 hv0 ei eo hc=>?_⟩
 ·have hu0:=z0 u hu0;have hv0:=z0 v hv0;obtain⟨k1,d1⟩:=ke u x y hu hu0 eu;obtain⟨k2,d2⟩:=ke v z w hv hv0 ev;have hnu:=hne u hu;rw[p0 u hu hu0]at hnu;have hnv:=hne v hv;rw[p0 v hv hv0]at hnv;have eu':Rz k.nb u y x:=eu.elim (λh=> .inr ⟨h.2,h.1⟩) (λh=> .inl ⟨h.2,h.1⟩);have ev':Rz k.nb v w z:=ev.elim (λh=> .inr ⟨h.2,h.1⟩) (λh=> .inl ⟨h.2,h.1⟩);have kk:k.key u.1 u.2=k.key v.1 v.2:=by rw[k1,k2,exz,eyw]
  have a1:=Lc (l:=l) eu hnu;have a2:=Lc (l:=l) eu' hnu;have a3:=Lc (l:=l) ev hnv;have a4:=Lc (l:=l) ev' hnv;rw[←exz]at a3;rw[←eyw]at a4;rw[←exz,←eyw]at hc;have g1:=H.pp u v hu hv hu0 hv0 kk;have g2:=H.pp v u hv hu hv0 hu0 kk.symm;rw[←kk]at g2;rw[k1]at g1 g2;unfold tI at g1 g2
  split at g1
  ·rename_i h0;rw[if_pos h0]at g2;dsimp only at g1 g2;rw[a1,a2,a3,a4]at g2;exact g2 ⟨hc.2,hc.1⟩
  ·dsimp only at g1;rw[a1,a2,a3,a4]at g1;exact g1 hc
 ·have hu0:=z0 u hu0;have hv0:=z1 v hv0;obtain⟨k1,d1⟩:=ke u x y hu hu0 eu;have hnu:=hne u hu;rw[p0 u hu hu0]at hnu;have kk:k.key u.1 u.2=k.key v.1 v.2:=by rw[k1,qI,exv,eyo]
  have g:=H.pl u v hu hv hu0 hv0 kk;have a1:=Lc (l:=l) eu hnu;rw[←exv,a1]at g;unfold Lk.hL mm at g;dsimp only at g hc;rw[l0 v hv hv0]at hc;rw[←exv]at hc g;exact g hc
 ·have hu0:=z1 u hu0;have hv0:=z1 v hv0;have kk:k.key u.1 u.2=k.key v.1 v.2:=by rw[qI,qI,ei,eo]
  have g:=H.ll u v hu hv hu0 hv0 kk ei;unfold Ls at hc;rw[l0 u hu hu0,l0 v hv hv0]at hc;unfold Jy Lk.hL mm at g;simp only[Bool.or_eq_false_iff,Bool.and_eq_false_iff,decide_eq_false_iff_not]at g;rcases hc with hc|hc
  ·rcases g.1 with (h|h)|h<;>omega
  ·rcases g.2 with (h|h)|h<;>omega
theorem Aq7 (p0:∀u,k.reg u→Cx k.cr u.1 u.2=0→k.other u.1 u.2=k.img (k.nb u)) (l0:∀u,k.reg u→Cx k.cr u.1 u.2≠0→k.img (k.nb u)=k.img u.1) (hne:∀u,k.reg u→k.img u.1≠k.other u.1 u.2)
  (hp:∀u,k.reg u→0≤htC l (k.img u.1) u.1∧0≤htC l (k.img (k.nb u)) (k.nb u))
  (H:NC2 k.reg k.nb (λu=>decide (Cx k.cr u.1 u.2≠0)) k.img (λu=>k.other u.1 u.2) (λi=>htC l (k.img i) i)):NC k l:=by
 have z0:∀u:Nat×Nat,Cx k.cr u.1 u.2=0→decide (Cx k.cr u.1 u.2≠0)=false:=λu h=>by simpa using h
 have z1:∀u:Nat×Nat,Cx k.cr u.1 u.2≠0→decide (Cx k.cr u.1 u.2≠0)=true:=λu h=>by simpa using h
 have en:∀u A B,k.reg u→Cx k.cr u.1 u.2=0→k.key u.1 u.2=(A,B)→∃x y,Rz k.nb u x y∧k.img x=A∧k.img y=B∧k.hU l A u=htC l A x∧k.hU l B u=htC l B y:=λu A B hu h0 e=>by
  have hn:=hne u hu;rw[p0 u hu h0]at hn;rcases Ny k u with e2|e2
  ·rw[e2,p0 u hu h0]at e;injection e with e3 e4;have a1:=Lc (l:=l) (x:=u.1) (y:=k.nb u) (.inl ⟨rfl,rfl⟩) hn;have a2:=Lc (l:=l) (x:=k.nb u) (y:=u.1) (.inr ⟨rfl,rfl⟩) hn;rw[e3]at a1;rw[e4]at a2;exact⟨u.1,k.nb u,.inl ⟨rfl,rfl⟩,e3,e4,a1,a2⟩
  ·rw[e2,p0 u hu h0]at e;injection e with e3 e4;have a1:=Lc (l:=l) (x:=u.1) (y:=k.nb u) (.inl ⟨rfl,rfl⟩) hn;have a2:=Lc (l:=l) (x:=k.nb u) (y:=u.1) (.inr ⟨rfl,rfl⟩) hn;rw[e4]at a1;rw[e3]at a2;exact⟨k.nb u,u.1,.inr ⟨rfl,rfl⟩,e3,e4,a2,a1⟩
 refine⟨λu hu h0=>?_,λu hu h0=>?_,λu v hu hv hu0 hv0 e=>?_,λu v hu hv hu0 hv0 e=>?_,λu v hu hv hu0 hv0 e ei=>?_⟩
 ·have hn:=hne u hu;rw[p0 u hu h0]at hn;rw[p0 u hu h0,Lc (l:=l) (x:=u.1) (y:=k.nb u) (.inl ⟨rfl,rfl⟩) hn,Lc (l:=l) (x:=k.nb u) (y:=u.1) (.inr ⟨rfl,rfl⟩) hn];exact hp u hu
 ·have:=hp u hu;rw[l0 u hu h0]at this;exact this
 ·obtain⟨⟨A,B⟩,hk⟩:=ey (k.key u.1 u.2);obtain⟨x,y,he,x1,y1,x2,y2⟩:=en u A B hu hu0 hk;obtain⟨z,w,hf,z1,w1,z2,w2⟩:=en v A B hv hv0 (e▸hk);have g:=H.pp u v x y z w hu hv (z0 u hu0) (z0 v hv0) he hf (x1.trans z1.symm) (y1.trans w1.symm);rw[x1,y1,z1,w1]at g;rw[hk];dsimp only;rw[x2,y2,z2,w2];exact g
 ·have hn:=hne u hu;rw[p0 u hu hu0]at hn
  have fin:∀x y,Rz k.nb u x y→k.img x=k.img v.1→k.img y=k.other v.1 v.2→¬((k.hL l v).1<k.hU l (k.img v.1) u∧k.hU l (k.img v.1) u<(k.hL l v).2):=λx y he h1 h2=>by
   have g:=H.pl u v x y hu hv (z0 u hu0) (z1 v hv0) he h1 h2;have a1:=Lc (l:=l) he hn;rw[h1]at a1;rw[a1];unfold Lk.hL mm;dsimp only at g⊢;rw[l0 v hv hv0,h1]at g;exact g
  have hu1:k.other u.1 u.2=k.img (k.nb u):=p0 u hu hu0;rcases Ny k u with e1|e1<;>rcases Ny k v with e2|e2<;>rw[e1,e2]at e<;>injection e with e3 e4
  ·exact fin u.1 (k.nb u) (.inl ⟨rfl,rfl⟩) e3 (hu1▸e4)
  ·exact fin (k.nb u) u.1 (.inr ⟨rfl,rfl⟩) (hu1▸e4) e3
  ·exact fin (k.nb u) u.1 (.inr ⟨rfl,rfl⟩) (hu1▸e3) e4
  ·exact fin u.1 (k.nb u) (.inl ⟨rfl,rfl⟩) e4 (hu1▸e3)
 ·have eo:k.other u.1 u.2=k.other v.1 v.2:=by
   have h1:=hne u hu;have h2:=hne v hv;rcases Ny k u with e1|e1<;>rcases Ny k v with e2|e2<;>rw[e1,e2]at e<;>injection e with e3 e4
   ·exact absurd (ei.trans e4.symm) h1
   ·exact absurd (ei.trans e3.symm) h1
  have g:=H.ll u v hu hv (z1 u hu0) (z1 v hv0) ei eo;unfold Ls at g;rw[l0 u hu hu0,l0 v hv hv0]at g;unfold Jy Lk.hL mm;simp only[Bool.or_eq_false_iff,Bool.and_eq_false_iff,decide_eq_false_iff_not];omega
end
def Gc (c:Cl) (e:Nat):Cl:=⟨c.x+(nxt c.q e).1,c.y+(nxt c.q e).2.1,(nxt c.q e).2.2.toNat⟩
theorem Zw {t:Nat} (h:t≤7):t=0∨t=1∨t=2∨t=3∨t=4∨t=5∨t=6∨t=7:=Ci
theorem Wg {t:Nat} (h:t≤3):t=0∨t=1∨t=2∨t=3:=Ci
theorem dL {t:Nat} (h:t≤2):t=0∨t=1∨t=2:=Ci
theorem Nz (m:Mv) (ht:m.t≤7) (c:Cl) (hq:c.q≤3) (e:Nat) (he:e≤2):∃e',e'≤2∧Da m (Gc c e)=Gc (Da m c) e':=by
 obtain⟨t,a,b⟩:=m;obtain⟨x,y,q⟩:=c;dsimp only at ht hq;rcases Zw ht with rfl|rfl|rfl|rfl|rfl|rfl|rfl|rfl<;>rcases Wg hq with rfl|rfl|rfl|rfl<;>rcases dL he with rfl|rfl|rfl<;>
 first
  |(refine⟨0,Ct,?_⟩
    simp[Da,Gc,Ee,Dk,mat,Ea,Hk,nxt];omega)
  |(refine⟨1,Ct,?_⟩
    simp[Da,Gc,Ee,Dk,mat,Ea,Hk,nxt]<;>omega)
  |(refine⟨2,Ct,?_⟩
    simp[Da,Gc,Ee,Dk,mat,Ea,Hk,nxt]<;>omega)
theorem Uy (c:Cl) (hq:c.q≤3) (e:Nat) (he:e≤2):Da (ofL (Et c e).1 (Et c e).2) (Gc c e)=c∧Da (ofL (Et c e).1 (Et c e).2) c=Gc c e:=by
 obtain⟨x,y,q⟩:=c;dsimp only at hq;rcases Wg hq with rfl|rfl|rfl|rfl<;>rcases dL he with rfl|rfl|rfl<;>
 simp[Da,Gc,Ee,Dk,mat,Ea,Hk,nxt,ofL,Et]<;>omega
def thn (a b:Mv):Mv:=⟨Gg (Du (mat a.t) (mat b.t)),(Dk (mat b.t) a.x a.y).1+b.x,(Dk (mat b.t) a.x a.y).2+b.y⟩
theorem Ar3 (a b:Mv):(thn a b).t≤7:=by
 unfold thn Gg;dsimp only
 repeat' split
 all_goals decide
theorem uP (a b:Mv) (ha:a.t≤7) (hb:b.t≤7) (x y:Int):Ee (thn a b) x y=Ee b (Ee a x y).1 (Ee a x y).2:=by
 obtain⟨t,a1,a2⟩:=a;obtain⟨u,b1,b2⟩:=b;dsimp only at ha hb;rcases Zw ha with rfl|rfl|rfl|rfl|rfl|rfl|rfl|rfl<;>rcases Zw hb with rfl|rfl|rfl|rfl|rfl|rfl|rfl|rfl<;>
 simp[thn,Ee,Dk,mat,Du,Gg]<;>omega
theorem uO (m:Mv) (ht:m.t≤7) (x y:Int):(Ee m (2*x+1) (2*y+1)).1%2=1∧(Ee m (2*x+1) (2*y+1)).2%2=1:=by
 obtain⟨t,a,b⟩:=m;dsimp only at ht;rcases Zw ht with rfl|rfl|rfl|rfl|rfl|rfl|rfl|rfl<;>simp[Ee,Dk,mat]<;>omega
theorem Ac4 (a b:Mv) (ha:a.t≤7) (hb:b.t≤7) (q:Nat) (hq:q≤3):Hk (Dk (mat (thn a b).t) (Ea q).1 (Ea q).2)=Hk (Dk (mat b.t) (Ea (Hk (Dk (mat a.t) (Ea q).1 (Ea q).2))).1 (Ea (Hk (Dk (mat a.t) (Ea q).1 (Ea q).2))).2):=by
 have key:∀t,t<8→∀u,u<8→∀q,q<4→Hk (Dk (mat (Gg (Du (mat t) (mat u)))) (Ea q).1 (Ea q).2)=Hk (Dk (mat u) (Ea (Hk (Dk (mat t) (Ea q).1 (Ea q).2))).1 (Ea (Hk (Dk (mat t) (Ea q).1 (Ea q).2))).2):=Ct;exact key a.t Ci b.t Ci q Ci
theorem Uo (a b:Mv) (ha:a.t≤7) (hb:b.t≤7) (c:Cl) (hq:c.q≤3):Da (thn a b) c=Da b (Da a c):=by
 have h1:=uP a b ha hb (2*c.x+1) (2*c.y+1);have h2:=uO a ha c.x c.y;have h3:=Ac4 a b ha hb c.q hq;have e1:2*((Ee a (2*c.x+1) (2*c.y+1)).1/2)+1=(Ee a (2*c.x+1) (2*c.y+1)).1:=Ci;have e2:2*((Ee a (2*c.x+1) (2*c.y+1)).2/2)+1=(Ee a (2*c.x+1) (2*c.y+1)).2:=Ci;unfold Da;dsimp only;rw[h1,h3,e1,e2]
theorem Ac3 (d:Int×Int):Hk d≤3:=by
 unfold Hk
 repeat' split
 all_goals decide
theorem Eb (m:Mv) (c:Cl):(Da m c).q≤3:=Ac3 _
theorem Hf {α:Type} (l:List α) (n:Nat) (v d:α) (h:n<l.length):(l.set n v).getD n d=v:=by simp[List.getD,h]
theorem Jd {α:Type} (l:List α) (n j:Nat) (v d:α) (h:j≠n):(l.set n v).getD j d=l.getD j d:=by
 simp only[List.getD,List.getElem?_set_ne (Ne.symm h)]
structure kD (a b:Int) (l:List Cr) (s:RS) (D:List Nat):Prop where
 lo:s.out.length=Cq a b
 lk:s.known.length=Cq a b
 nd:(D++s.wait).Nodup
 kn:∀j,s.known.getD j false=true↔j∈D++s.wait
 lt:∀j∈D++s.wait,j<Cq a b
def Vz (s s':RS):Prop:=∀j,s.known.getD j false=true→s'.known.getD j false=true∧s'.out.getD j mv0=s.out.getD j mv0
theorem Vz.refl (s:RS):Vz s s:=λ_ h=>⟨h,rfl⟩
theorem Vz.trans {s t u:RS} (h:Vz s t) (k:Vz t u):Vz s u:=λj hj=>⟨(k j (h j hj).1).1,(k j (h j hj).1).2.trans (h j hj).2⟩
def kC (a b:Int) (l:List Cr) (s:RS) (id e:Nat):Prop:=(nbI a b id e).2=0→s.known.getD (nbI a b id e).1.toNat false=true∧s.out.getD (nbI a b id e).1.toNat mv0=Fj a b l s.out id e
theorem Pq (a b:Int) (l:List Cr) {o o':List Mv} {id:Nat} (e:Nat) (h:o'.getD id mv0=o.getD id mv0):Fj a b l o' id e=Fj a b l o id e:=by
 unfold Fj;rw[h]
theorem kC.ext {a b:Int} {l:List Cr} {s s':RS} {id e:Nat} (h:kC a b l s id e) (hx:Vz s s') (hi:s.known.getD id false=true):kC a b l s' id e:=λh0=>by
 obtain⟨h1,h2⟩:=h h0;refine⟨(hx _ h1).1,?_⟩;rw[(hx _ h1).2,h2,Pq a b l e (hx _ hi).2]
theorem dV {a b:Int} (hs:okS a b=true) {l:List Cr} {s s':RS} {D:List Nat} {id e:Nat} (h:Jw a b l id e s=Af s') (hI:kD a b l s D) (hid:id∈D):kD a b l s' D∧Vz s s'∧kC a b l s' id e:=by
 unfold Jw at h
 split at h
 ·rename_i h0;obtain rfl:=Option.some.inj h;exact⟨hI,Vz.refl _,λh1=>absurd h1 h0⟩
 ·rename_i h0;have h0:(nbI a b id e).2=0:=Decidable.not_not.1 h0;obtain⟨n1,n2⟩:=Yl hs h0;have hn:(nbI a b id e).1.toNat<Cq a b:=by unfold Cq;omega
  dsimp only at h
  cases hk:s.known.getD (nbI a b id e).1.toNat false with
  |true=>
   simp only[hk,if_true]at h
   split at h
   ·rename_i h3;obtain rfl:=Option.some.inj h;exact⟨hI,Vz.refl _,λ_=>⟨hk,h3⟩⟩
   ·cases h
  |false=>
   simp only[hk,Bool.false_eq_true,if_false]at h
   split at h
   ·rename_i h3;obtain rfl:=Option.some.inj h
    have hx:Vz s ⟨s.out.set (nbI a b id e).1.toNat (Fj a b l s.out id e),s.known.set (nbI a b id e).1.toNat true,s.wait++[(nbI a b id e).1.toNat]⟩:=λj hj=>by
     have hne:j≠(nbI a b id e).1.toNat:=λe2=>by rw[e2,hk]at hj;cases hj
     dsimp only;rw[Jd _ _ _ _ _ hne,Jd _ _ _ _ _ hne];exact⟨hj,rfl⟩
    have hnm:(nbI a b id e).1.toNat∉D++s.wait:=λh4=>by
     have:=(hI.kn _).2 h4;rw[hk]at this
     cases this
    refine⟨⟨by simpa using hI.lo,by simpa using hI.lk,?_,?_,?_⟩,hx,λ_=>⟨?_,?_⟩⟩
    ·dsimp only;rw[←Bj];refine Bp.2 ⟨hI.nd,Cn,?_⟩;intro x hx1 y hy;rw[List.mem_singleton.1 hy];exact λe2=>hnm (e2▸hx1)
    ·intro j;dsimp only;rw[←Bj,Bl,←hI.kn j];by_cases hj:j=(nbI a b id e).1.toNat
     ·subst hj;rw[Hf _ _ _ _ (by rw[hI.lk];exact hn)];simp
     ·rw[Jd _ _ _ _ _ hj];simp[hj]
    ·intro j hj;dsimp only at hj;rw[←Bj,Bl]at hj;rcases hj with hj|hj
     ·exact hI.lt j hj
     ·rw[List.mem_singleton.1 hj];exact hn
    ·exact Hf _ _ _ _ (by rw[hI.lk];exact hn)
    ·dsimp only;rw[Hf _ _ _ _ (by rw[hI.lo];exact hn)];exact(Pq a b l e (hx id ((hI.kn id).2 (List.mem_append_left _ hid))).2).symm
   ·cases h
theorem nR {a b:Int} (hs:okS a b=true) {l:List Cr} {s s':RS} {D:List Nat} {id:Nat} (h:Ll a b l id s=Af s') (hI:kD a b l s D) (hid:id∈D):kD a b l s' D∧Vz s s'∧∀e,e≤2→kC a b l s' id e:=by
 unfold Ll at h;obtain⟨s1,h1,h⟩:=Option.bind_eq_some_iff.1 h;obtain⟨s2,h2,h3⟩:=Option.bind_eq_some_iff.1 h;obtain⟨i1,x1,c1⟩:=dV hs h1 hI hid;obtain⟨i2,x2,c2⟩:=dV hs h2 i1 hid;obtain⟨i3,x3,c3⟩:=dV hs h3 i2 hid;have k1:=(i1.kn id).2 (List.mem_append_left _ hid);have k2:=(i2.kn id).2 (List.mem_append_left _ hid);refine⟨i3,(x1.trans x2).trans x3,λe he=>?_⟩;rcases dL he with rfl|rfl|rfl
 ·exact(c1.ext x2 k1).ext x3 k2
 ·exact c2.ext x3 k2
 ·exact c3
theorem iT {a b:Int} (hs:okS a b=true) {l:List Cr}:∀(f:Nat) {s:RS} {D:List Nat} {m:List Mv},Ml a b l f s=Af m→f+D.length=Cq a b+1→kD a b l s D→(∀id∈D,∀e,e≤2→kC a b l s id e)→
  ∃D':List Nat,(∀id∈D,id∈D')∧(∀id∈s.wait,id∈D')∧(∀id∈D',∀e:Nat,e≤2→(nbI a b id e).2=0→(nbI a b id e).1.toNat∈D'∧m.getD (nbI a b id e).1.toNat mv0=Fj a b l m id e)∧∀j,s.known.getD j false=true→m.getD j mv0=s.out.getD j mv0
 |0,s,D,m,h,hf,hI,hc=>by
  have h1:(D++s.wait).length≤Cq a b:=by
   have:=List.Nodup.length_le_of_subset (l₁:=D++s.wait) (l₂:=List.range (Cq a b)) hI.nd (λx hx=>List.mem_range.2 (hI.lt x hx));simpa using this
  rw[Bh]at h1;omega
 |f+1,s,D,m,h,hf,hI,hc=>by
  unfold Ml at h
  cases hw:s.wait with
  |nil=>
   rw[hw]at h;obtain rfl:=Option.some.inj h;refine⟨D,λ_ h=>h,(λ_ h=>by cases h),λid hid e he h0=>?_,λ_ _=>rfl⟩;obtain⟨k1,k2⟩:=hc id hid e he h0;have:=(hI.kn _).1 k1;rw[hw,List.append_nil]at this;exact⟨this,k2⟩
  |cons id r=>
   rw[hw]at h;obtain⟨s',h1,h2⟩:=Option.bind_eq_some_iff.1 h
   have hI2:kD a b l ⟨s.out,s.known,r⟩ (D++[id]):=by
    have e:D++[id]++r=D++s.wait:=by rw[hw];simp
    exact⟨hI.lo,hI.lk,by rw[e];exact hI.nd,λj=>by rw[e];exact hI.kn j,λj hj=>hI.lt j (by rw[e]at hj;exact hj)⟩
   obtain⟨i3,x3,c3⟩:=nR hs h1 hI2 Cn
   obtain⟨D',d1,d2,d3,d4⟩:=iT hs f h2 (by simp;omega) i3 (λj hj e he=>by
    rcases Bl.1 hj with hj|hj
    ·have hk:s.known.getD j false=true:=(hI.kn j).2 (List.mem_append_left _ hj);exact kC.ext (s:=s) (hc j hj e he) x3 hk
    ·rw[List.mem_singleton.1 hj];exact c3 e he)
   refine⟨D',λj hj=>d1 j (List.mem_append_left _ hj),λj hj=>?_,d3,λj hj=>(d4 j (x3 j hj).1).trans (x3 j hj).2⟩;rcases Bk.1 hj with rfl|hj
   ·exact d1 _ Cn
   ·by_cases hjd:j∈D'
    ·exact hjd
    ·have hk:(⟨s.out,s.known,r⟩:RS).known.getD j false=true:=(hI2.kn j).2 (List.mem_append_right _ hj);have:=(i3.kn j).1 (x3 j hk).1;rcases Bl.1 this with h|h
     ·exact d1 j h
     ·exact d2 j h
theorem An5 {a b:Int} (hs:okS a b=true) {l:List Cr} {m:List Mv} (h:Od a b l=Af m):
  m.getD 0 mv0=mv0∧∃D:List Nat,0∈D∧∀id∈D,∀e:Nat,e≤2→(nbI a b id e).2=0→(nbI a b id e).1.toNat∈D∧m.getD (nbI a b id e).1.toNat mv0=Fj a b l m id e:=by
 have hc:1≤Cq a b:=by
  have:=Ho hs;unfold Cq;rw[show 4*a*b=4*(a*b)from Int.mul_assoc ..];omega
 unfold Od at h
 have hI:kD a b l ⟨Ba (Cq a b) mv0,true::Ba (Cq a b-1) false,[0]⟩ []:=by
  refine⟨Cn,by simp;omega,Cn,λj=>?_,λj hj=>?_⟩
  ·cases j with
   |zero=>simp
   |succ j=>
    simp only[List.nil_append,List.mem_singleton,Nat.succ_ne_zero,iff_false];simp[List.getD,List.getElem?_replicate]
    split<;>rfl
  ·have:j=0:=by simpa using hj
   omega
 obtain⟨D,-,d2,d3,d4⟩:=iT hs _ (D:=[]) h Cn hI (λ_ h=>by cases h);refine⟨(d4 0 Cn).trans ?_,D,d2 0 Cn,d3⟩;dsimp only
 cases hc2:Cq a b with
 |zero=>omega
 |succ k=>rfl
theorem Pf {m:Mv} (h:m.ok=true):m.t≤7:=by
 have:=(Mg.1 h).1;omega
theorem Fe (a:Int) (i:Nat):(Cp a i).q≤3:=by
 unfold Cp;dsimp only;omega
theorem zD {n:Nat} {l:List Nat} (hn:l.Nodup) (hl:n≤l.length) (hb:∀x∈l,x<n) {i:Nat} (hi:i<n):i∈l:=by
 apply Classical.byContradiction;intro h
 have h2:(i::l).length≤(List.range n).length:=List.Nodup.length_le_of_subset (List.nodup_cons.2 ⟨h,hn⟩) λx hx=>by
  rcases Bk.1 hx with rfl|hx
  ·exact List.mem_range.2 hi
  ·exact List.mem_range.2 (hb x hx)
 simp at h2;omega
theorem Us {c:Cl} (h:c.ok=true) {e:Nat} (he:e≤2) (h2:(Gc c e).ok=true):Mq c e=(Gc c e,0):=by
 unfold Mq nbr;unfold Cl.ok at h h2;unfold Gc at h2⊢;dsimp only at h2;have hb:=Ym c.q e;rw[Int.toNat_of_nonneg hb.2.2.2.2.1]at h2;rw[if_neg (by rw[h];simp;omega)];simp only[Int.toNat_natCast];rw[if_pos h2]
end Go.Proofs.YthpcfeifmdbhnaaGreatDoor
