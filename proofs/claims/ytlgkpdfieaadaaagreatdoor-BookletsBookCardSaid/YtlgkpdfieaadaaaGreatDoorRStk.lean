import Derived.WalkSpells
import Derived.WalkLawsBesides
import Derived.Lib.Hide
import Derived.Deep.AppendLies
import Derived.Lib.AppendZeros
import Derived.Laws.CopyOwn
import Derived.BigQuiet
import Derived.StillTailTactics
import Derived.Deep.DeepCutAuto
import Derived.Deep.CutBlock
import Derived.Test.YtlgkpdfieaadaaaGreatDoorRows
import Derived.Deep.RegionHeld3
import Derived.Deep.Upon
import Derived.Laws.EntriesVeiled
import Derived.Lib.QuietBelow
set_option linter.all false
open Array renaming getElem?_eq_some_iff->Au
open Bool renaming and_eq_true->Em,not_eq_true->Ep
open Go renaming Addr->Cj,Calls->Al,TypeId->Ck,Value->Ak,World->Aj,bodyPost_ret->Ai,cell_of_row->Bz,heap_alloc_new->Ca
open Go.IntKind renaming i64->Ab,u8->Ac
open Go.IntWalk renaming i64_in->Cb
open Go.Lib renaming hid->Ah,wpList_append_run->As
open Go.Obj renaming cells->Co
open Go.Proofs.Tryz renaming prog->Dp,underlying30->Fi,underlying38->Dl
open Go.Region renaming wanted->Dz
open Go.RowKit.Below renaming heap_alloc->Eh,heap_setCell->Dq,refl->Ag
open Go.Value renaming int->Aa,slice->Ad,ownBlock->Dx
open Go.World renaming frozen?->Ea
open Int renaming mul_assoc->Cw,tdiv_eq_ediv_of_nonneg->Gi,toNat_natCast->Ev
open List renaming flatMap_cons->Bf,getElem?_append_left->Fk,getElem?_append_right->Eg,getElem?_cons_succ->Cx,getElem?_eq_some_iff->Ax,getElem_cons_succ->Ce,getElem_cons_zero->Cd,getElem_mem->Ay,getElem_toArray->Cf,length_cons->Eo,length_take->Bm,nil_append->Eu,range->Ds,replicate->Ba,setIfInBounds_toArray->Ci,set_append_right->Gh,set_cons_succ->Ch,set_cons_zero->Cg
open Nat renaming le_refl->Am,le_trans->Bt,lt_of_lt_of_le->Br,mul_le_mul_right->Fu,sub_self->Fo,zero_add->Bu
open Option renaming none->Ae,some->Af
set_option maxHeartbeats 4000000
set_option maxRecDepth 100000
namespace Go
def Zz (w:Aj) {p:(w':Aj)->RowKit.Below w.heap.size w w'->Prop} (h:∀w' hb,p w' hb):RowKit.Hid (∀w' hb,p w' hb):=Ah h
def Up {a b c:Aj} (h:RowKit.Below a.heap.size a b) (k:RowKit.Below b.heap.size b c):RowKit.Below a.heap.size a c:=h.trans (k.mono h.size)
def Tw {α:Type} (a:α):∃z,RowKit.Hid (z=a):=⟨a,Ah rfl⟩
theorem Shut.o {S:Aj->Prop} {N K:Act->Aj->Prop} (h:Shut (∀a w,S w->(S w->N a w)->K a w)) {a:Act} {w:Aj} (s:S w) (n:S w->N a w):K a w:=h a w s n
def oHx {a p:Prop} (h:a) (k:a->p:=by intro h;omega):p:=k h
def Hv {p:Prop} (h:p:=by simp;omega):p:=h
def Qo {p:Prop} (h:p:=by simp [Act.eval]):p:=h
def Gv {p:Prop} (h:p:=by omega):p:=h
def Gx {p:Prop} (h:p:=by kernel_rfl):p:=h
def Gy {p:Prop} (h:p:=by simp):p:=h
def He {p:Prop} (h:p:=by decide):p:=h
instance:Coe Int Ak:=⟨Value.int .i64⟩
instance:Coe Nat Ak:=⟨λn=>Value.int .i64 (n:Int)⟩
def Li {p:Prop} [Decidable p]:(decide p=true)=p:=decide_eq_true_eq
def Ld {p:Prop} [Decidable p]:p->decide p=true:=decide_eq_true
def Me {p:Prop} [Decidable p]: ¬p->decide p=false:=decide_eq_false
def Rt {p:Prop} [Decidable p]:decide p=false↔ ¬p:=decide_eq_false_iff_not
def Sh {p:Prop} [Decidable p]:decide p=true->p:=of_decide_eq_true
def Hc.{u} {c:Prop} {h:Decidable c} (hc:c) {α:Sort u} {t e:α}:(ite c t e)=t:=if_pos hc
def Ha.{u} {c:Prop} {h:Decidable c} (hc: ¬c) {α:Sort u} {t e:α}:(ite c t e)=e:=if_neg hc
end Go
namespace Go.Proofs.YtlgkpdfieaadaaaGreatDoor
open Go.RowKit
variable {k c B size n sz g i j N s u:Nat} {e t:Ck} {w a W w1 w' w0 w2 wr:Aj} {xs xs':List Ak} {α β:Type} {r row:Option Nat} {P:Program} {cs tmps:Array Ak} {x y q:Int} {fn:Func} {d:TypeDesc} {A:Option Cj} {l:List Nat}
def ez.{u} {α:Sort u} (a:α):∃z,z=a:=⟨a,rfl⟩
def ey.{u} {α:Sort u} (a:α):∃z,a=z:=⟨a,rfl⟩
def Gz (v:Ak) (w:Aj) (e:Ending) (w':Aj):Prop:=e= .returned v/\Below w.heap.size w w'
def Iw {k:IntKind} {a b:Int} (h:a=b):Ending.returned (.int k a)= .returned (.int k b):=by rw[h]
def Rd (w:Aj) (A:Option Cj) (sz n:Nat) (xs:List Ak):Prop:=
 xs.length=n*sz/\(0<n->∃b o,A=Af ⟨b,o,Ae⟩/\b<w.heap.size/\∀j u,xs[j]? =Af u->w.cell? ⟨b,o+j,Ae⟩=Af u)
section
variable {w w':Aj} {A:Option Cj} {sz n:Nat} {xs:List Ak}
def Rd.nil:Rd w A sz 0 []:=⟨Gy,λh=>absurd h Gv⟩
def Rd.keep (h:Rd w A sz n xs) (hs:w.heap.size<=w'.heap.size) (hk:∀b o,b<w.heap.size->w'.cell? ⟨b,o,Ae⟩=w.cell? ⟨b,o,Ae⟩):Rd w' A sz n xs:=
 ⟨h.1,λhn=>by
  obtain⟨b,o,e,hb,hc⟩:=h.2 hn;exact⟨b,o,e,Gv,λj u hu=>(hk _ _ hb).trans (hc j u hu)⟩⟩
def Rd.below (h:Rd w A sz n xs) (hb:Below w.heap.size w w'):Rd w' A sz n xs:=h.keep hb.size λb o hl=>hb.cell (p:=⟨b,o,Ae⟩) hl
def Rd.alloc (h:Rd w A sz n xs) (o:Obj):Rd (w.alloc o) A sz n xs:=h.keep Gy λb o' hl=>World.cell?_alloc_lt w o ⟨b,o',Ae⟩ hl
def Rd.take (h:Rd w A sz n xs) (hk:k<=n):Rd w A sz k (xs.take (k*sz)):=by
 have hm:k*sz<=n*sz:=Fu _ hk;refine⟨by rw[Bm,h.1];omega,λhn=>?_⟩;obtain⟨b,o,e,hb,hc⟩:=h.2 Gv;refine⟨b,o,e,hb,λj u hu=>hc j u ?_⟩;rw[List.getElem?_take]at hu
 split at hu
 ·exact hu
 ·cases hu
def Rd.of_own {base:Nat} (h:w.ownsRow base e sz (Ad A n c) n xs):Rd w A sz n xs:=by
 refine⟨h.1,λhn=>?_⟩;rcases h.2 with⟨_,h0⟩|⟨g,cap,cur,hv,_,hg,_,_,_,ht⟩
 ·omega
 ·have hA:A=Af ⟨g,0,Ae⟩:=by injection hv
  refine⟨g,0,hA,(Au.1 hg).1,λj u hu=>?_⟩;rw[Bu,Bz w g j cur e (0,0) hg];rw[<-ht,List.getElem?_take]at hu
  split at hu
  ·simpa using hu
  ·cases hu
end
def Nt (e:Ck) (sz n:Nat) (xs:List Ak) (w:Aj) (en:Ending) (w':Aj):Prop:=
 ∃v,en= .returned v/\w'.ownsRow w.heap.size e sz v n xs/\Below w.heap.size w w'
def Qh {b:Nat} (xs:List Ak) (n sz:Nat) (h:xs.length=n*sz) (hb:w.heap.size=b):Rd (w.alloc (.cells xs.toArray e)) (Af ⟨b,0,Ae⟩) sz n xs:=by
 subst hb
 exact⟨h,λ_=>⟨_,0,rfl,Gy,λj u hu=>by
  rw[Bu,Bz _ _ j xs.toArray e (0,0) (Ca w _)];simpa using hu⟩⟩
def Ic (h:Below B a w) (n:Nat):Below B a (w.drewN n):=⟨h.os,h.tape,h.output,h.size,h.block⟩
def Gw (hb:Below W.heap.size W w1) {b o:Nat} {v:Ak} (h:W.cell? ⟨b,o,Ae⟩=Af v):w1.cell? ⟨b,o,Ae⟩=Af v:=by
 rw[hb.cell (p:=⟨b,o,Ae⟩) (World.block_lt_of_cell? W ⟨b,o,Ae⟩ h)];exact h
def Hz {base:Nat} {v:Ak} (h:w.ownsRow base e size v n xs) (hB:w.heap.size<=B) (hb:Below B w w'):w'.ownsRow base e size v n xs:=by
 refine⟨h.1,?_⟩;rcases h.2 with hn|⟨g,cap,cur,rfl,K0,EY,rest⟩
 ·exact .inl hn
 ·exact .inr ⟨g,cap,cur,rfl,K0,(hb.block g (oHx ((Au.1 EY).1))).trans EY,rest⟩
def It (g:α->List β) (sz:Nat) (hg:∀a,(g a).length=sz) (l:List α) (i f:Nat) (hi:i<l.length) (hf:f<sz):
  (l.flatMap g)[i*sz+f]? =(g l[i])[f]? :=by
 induction l generalizing i with
 |nil=>simp at hi
 |cons a r ih=>
  cases i with
  |zero=>rw[Bf,Fk (by rw[hg];omega)];simp
  |succ i=>
   rw[Bf,Eg (by rw[hg,Nat.succ_mul];omega),hg];have:(i+1)*sz+f-sz=i*sz+f:=by rw[Nat.succ_mul];omega
   rw[this];simpa using ih i (by simpa using hi)
def Kq (g:α->List β) (sz:Nat) (hg:∀a,(g a).length=sz) (l:List α):(l.flatMap g).length=l.length*sz:=by
 induction l with
 |nil=>simp
 |cons a r ih=>rw[Bf,List.length_append,ih,hg,Eo,Nat.succ_mul];omega
def On (g:α->List β) (sz:Nat) (hg:∀a,(g a).length=sz) (l:List α) (i f:Nat) (hi:i<l.length) (hf:f<sz) (a:α) (u:β) (ha:g a=(g l[i]).set f u):
  (l.set i a).flatMap g=(l.flatMap g).set (i*sz+f) u:=by
 induction l generalizing i with
 |nil=>simp at hi
 |cons b r ih=>
  cases i with
  |zero=>
   simp only[Cg,Bf,Nat.zero_mul,Bu];rw[List.set_append_left _ _ (by rw[hg];omega),ha];simp
  |succ i=>
   simp only[Ch,Bf];rw[Gh _ _ (by rw[hg,Nat.succ_mul];omega),hg];have e:(i+1)*sz+f-sz=i*sz+f:=by rw[Nat.succ_mul];omega
   rw[e,ih i (by simpa using hi) (by simpa using ha)]
def Nn {b b':Nat} {v:Ak} (h:w.ownsRow b e sz v n xs) (hb:b'<=b):w.ownsRow b' e sz v n xs:=by
 refine⟨h.1,?_⟩;rcases h.2 with hn|⟨g,cap,cur,r1,r2,r3⟩
 ·exact .inl hn
 ·exact .inr ⟨g,cap,cur,r1,Gv,r3⟩
def Hy {b:Nat} {v:Ak} (h:w.ownsRow b e sz v n xs):∃A c,v= Ad A n c/\n<=c/\c<=maxLen:=by
 rcases h.2 with⟨rfl,h0⟩|⟨g,cap,cur,r1,_,_,r2,r3,_⟩
 ·exact⟨Ae,0,by rw[h0],Gv,by simp[maxLen]⟩
 ·exact⟨_,cap,r1,r2,r3⟩
def Th {base g n c sz:Nat} (h:w.ownsRow base e sz (Ad (Af ⟨g,0,Ae⟩) n c) n xs):∀q,w.frozen? ⟨g,q,Ae⟩=false:=by
 intro q;rcases h.2 with⟨h0,_⟩|⟨g',cap,cur,hv,K0,EY,_⟩
 ·simp at h0
 obtain⟨rfl,rfl⟩:g'=g/\cap=c:=by simp at hv;exact⟨hv.1.symm,hv.2.symm⟩
 simp[Ea,EY]
def Ks {a b c:Aj} (h:a.grownBy b r) (k:b.grownBy c r):a.grownBy c r:=
 ⟨k.os.trans h.os,k.tape.trans h.tape,k.output.trans h.output,Bt h.size k.size,λi hi hne=>(k.block i (Br hi h.size) hne).trans (h.block i hi hne)⟩
def Jo (w:Aj) (r:Option Nat):w.grownBy w r:=⟨rfl,rfl,rfl,Am _,λ_ _ _=>rfl⟩
def Rg {a b:Aj} (h:a.grownBy b r):a.grownBy b.drew r:=⟨h.os,h.tape,h.output,h.size,h.block⟩
def Kx {base g n cap sz:Nat} (h:w.ownsRow base e sz (Ad (Af ⟨g,0,Ae⟩) n cap) n xs) (hg:w0.grownBy w (Af g)) (q:Nat) (u:Ak):
  (w.setCell ⟨g,q,Ae⟩ u).ownsRow base e sz (Ad (Af ⟨g,0,Ae⟩) n cap) n (xs.set q u)/\w0.grownBy (w.setCell ⟨g,q,Ae⟩ u) (Af g):=
 ⟨(h.stored q u).1,Ks hg (h.stored q u).2⟩
def dE (w:Aj) (t ty e:Ck) (i:TypeInfo) (ht:P.underlying t=Af (.slice e)) (hi:P.info? e=Af i) (b:Cj) (n cap c:Nat) (h:n<=cap):
  (Builtin.append_ #[t,t] ty #[Ad (Af b) n cap,Ad Ae 0 c]).run P w= .ok (Ad (Af b) n cap) w:=by
 simp[Builtin.append_,run_underlying ht,sizeOf,typeInfo,hi,Builtin.lenOf,Builtin.firstCells,loadCells,h,storeCells]
def Rd.allK {a:Cj} (h:Rd w (Af a) sz n xs):∀j u,xs[j]? =Af u->w.cell? (a.add j)=Af u:=by
 intro j u hu;have hj:=(Ax.1 hu).1;have hl:=h.1
 have hn:0<n:=by
  rcases Nat.eq_zero_or_pos n with h0|h0
  ·subst h0;omega
  ·exact h0
 obtain⟨b,o,e,_,hc⟩:=h.2 hn
 cases e
 have ft:(⟨b,o,Ae⟩:Cj).add j=⟨b,o+j,Ae⟩:=by unfold Addr.add;split<;>simp_all
 rw[ft];exact hc j u hu
def Hw (w:Aj) (base:Nat) (t ty e:Ck) (i:TypeInfo) (z:Ak) (size bytes:Nat) (ht:P.underlying t=Af (.slice e)) (hi:P.info? e=Af i) (hz:i.zero=Af z)
  (hsize:i.size=size) (hby:i.bytes=bytes) (IS:z.cells.size=size) (hs:0<size) (v:Ak) (n:Nat) (xs:List Ak) (aa:w.ownsRow base e size v n xs) (A:Option Cj) (m c:Nat) (news:List Ak) (h1:∀u∈news,u.oneCell'=true) (hR:Rd w A size m news) (hA:A=Ae->m=0)
  (h63:n+m<=1000000000000) (K8:bytes<=100) (lz:base<=w.heap.size):
  ∃v' w',(Builtin.append_ #[t,t] ty #[v,Ad A m c]).run P w= .ok v' w'/\w'.ownsRow base e size v' (n+m) (xs++news)/\w.grownBy w' v.ownBlock:=by
 cases A with
 |none=>
  have hm:=hA rfl;subst hm
  have hl:news=[]:=by
   have:=hR.1;rw[Nat.zero_mul]at this;exact List.length_eq_zero_iff.1 this
  subst hl;rw[List.append_nil,Nat.add_zero];refine⟨v,w,?_,aa,Jo _ _⟩;rcases aa.2 with⟨rfl,rfl⟩|⟨g,cap,cur,rfl,_,_,JZ,_⟩
  ·simp[Builtin.append_,run_underlying ht,sizeOf,typeInfo,hi,Builtin.lenOf,Builtin.firstCells]
  ·exact dE w t ty e i ht hi _ n cap c JZ
 |some a=>
  obtain⟨v',w',hr,h2,h3,_⟩:=run_append_own_at (P:=P) w base t ty e i z size bytes ht hi hz hsize hby IS hs v n xs aa a m c news hR.1 hR.allK h1 (by unfold maxLen;omega) (by
   have:(n+m)*bytes<=(n+m)*100:=Nat.mul_le_mul_left _ K8;omega) lz
  exact⟨v',w',hr,h2,h3⟩
def Pu {g base n c:Nat} (hb:base<=g) (hg:w.heap[g]? =Af (.cells cs e (0,0))) (_hn:n<=c) (hc:c<=maxLen) (AV:cs.size=c*sz):w.ownsRow base e sz (Ad (Af ⟨g,0,Ae⟩) 0 c) 0 []:=
 ⟨Gy,.inr ⟨g,c,cs,rfl,hb,hg,Gv,hc,AV,Gy⟩⟩
def Pq {a b c:Aj} (h:a.grownBy b (Af g)) (k:Below b.heap.size b c):a.grownBy c (Af g):=
 ⟨k.os.trans h.os,k.tape.trans h.tape,k.output.trans h.output,Bt h.size k.size,λi hi hne=>(k.block i (Br hi h.size)).trans (h.block i hi hne)⟩
def cG {a b:Aj} (h:a.grownBy b r) (n:Nat):a.grownBy (b.drewN n) r:=⟨h.os,h.tape,h.output,h.size,h.block⟩
def Lu {base:Nat} {v:Ak} (h:w.ownsRow base e sz v n xs):∃A c,v= Ad A n c/\(A=Ae->n=0):=by
 rcases h.2 with⟨rfl,rfl⟩|⟨g,cap,cur,rfl,_⟩
 ·exact⟨Ae,0,rfl,λ_=>rfl⟩
 ·exact⟨Af ⟨g,0,Ae⟩,cap,rfl,λh=>by cases h⟩
def Jv {ops:Array Oper} {o:Oper} {a:Act} {K:Act->Aj->Prop} {Q:Exit->Act->Aj->Prop} {E:Prop} (hw:Dz o (yielded ops a.tmps)=true) (s x:Operand) (t:Ck)
  (ho:o.op= .call {callee:= .builtin .append,args:=#[s,x],argTypes:=#[t,t]}) (vs vx:Ak) (hs:a.eval s=vs) (hx:a.eval x=vx) (v':Ak) (w':Aj)
  (hr:(Builtin.append_ #[t,t] o.type #[vs,vx]).run P w= .ok v' w') (h:K (a.put o.dst v') w'):if Dz o (yielded ops a.tmps)=true then Oper.wp P o a w K Q else E:=by
 rw[Hc hw];exact Lib.wp_append_run w s x t t ho vs vx hs hx v' w' hr h
def qJ {v:Ak} (h:w.heap[g]? =Af (.cells #[v] t (0,0))):w.cell? ⟨g,0,Ae⟩=Af v:=by
 rw[Bz w g 0 #[v] t (0,0) h];rfl
def Hl (h:Below w.drew.heap.size w.drew w2):Below w.heap.size w w2:=⟨h.os,h.tape,h.output,h.size,h.block⟩
def Wk {B e e' s s' n n':Nat} {v v':Ak} (h:w.ownsRow B e s v n xs) (h':w.ownsRow B e' s' v' n' xs') (hne:e≠e'):v.ownBlock=Ae∨v.ownBlock≠v'.ownBlock:=by
 rcases h.2 with⟨rfl,_⟩|⟨g,cap,cur,rfl,_,hg,_⟩
 ·exact .inl rfl
 ·refine .inr ?_;rcases h'.2 with⟨rfl,_⟩|⟨g',MQ,C7,rfl,_,wl,_⟩
  ·simp[Dx]
  ·intro e1;have:g=g':=by simpa[Dx]using e1
   subst this;rw[hg]at wl;injection wl with h1;injection h1 with _ h2 _;exact hne h2
def Vl {B e s n:Nat} {v:Ak} (h:w.ownsRow B e s v n xs) (hg:w.grownBy w' row) (hne:v.ownBlock=Ae∨v.ownBlock≠row):w'.ownsRow B e s v n xs:=by
 refine⟨h.1,?_⟩;rcases h.2 with hn|⟨g,cap,cur,rfl,hb,EY,rest⟩
 ·exact .inl hn
 ·refine .inr ⟨g,cap,cur,rfl,hb,(hg.block g (Au.1 EY).1 ?_).trans EY,rest⟩;rcases hne with h0|h0
  ·simp[Dx]at h0
  ·exact h0
def Zv (U V Z:List α) (x y:α) (hi:i=U.length) (hj:j=U.length+1+V.length):
  (U++x::(V++y::Z))[i]? =Af x/\(U++x::(V++y::Z))[j]? =Af y/\((U++x::(V++y::Z)).set i y).set j x=U++y::(V++x::Z):=by
 subst hi hj;refine⟨?_,?_,?_⟩
 ·rw[Eg (Am _),Fo];rfl
 ·rw[Eg Gv,show U.length+1+V.length-U.length=V.length+1 by omega,Cx,Eg (Am _),Fo];rfl
 ·rw[Gh _ _ (Am _),Fo,Cg,Gh _ _ Gv,show U.length+1+V.length-U.length=V.length+1 by omega,Ch,Gh _ _ (Am _),Fo,Cg]
def Ik (a b:Int):Int:=if a<b then-1 else if b<a then 1 else 0
def Tv {a b:Int} (h:a<b):Ik a b= -1:=by unfold Ik;rw[Hc h]
def kX {a b:Int} (h:b<a):Ik a b=1:=by unfold Ik;rw[Ha Gv,Hc h]
def kW {a b:Int} (h:b<=a) (h':a<=b):Ik a b=0:=by unfold Ik;rw[Ha Gv,Ha Gv]
def Rq {a b:Bool} (h:a=b):Ending.returned (.bool a)= .returned (.bool b):=by rw[h]
def iD (w:Aj) (o1 o2:Obj):((w.alloc o1).alloc o2).heap[w.heap.size]? =Af o1/\((w.alloc o1).alloc o2).heap[w.heap.size+1]? =Af o2:=by
 have h1:=Ca (w.alloc o1) o2;have h2:=Ca w o1;refine⟨?_,by simpa using h1⟩;rw[Eh _ _ _ Gy];exact h2
def kept {o:Obj} (hb:Below B w w') (h:w.heap[g]? =Af o) (hg:g<B):w'.heap[g]? =Af o:=(hb.block g hg).trans h
def Hm {a b:Ak} (h:w.heap[g]? =Af (.cells #[a,b] t (0,0))):(w.cell? ⟨g,0,Ae⟩=Af a/\w.cell? ⟨g,1,Ae⟩=Af b)/\(w.frozen? ⟨g,0,Ae⟩=false/\w.frozen? ⟨g,1,Ae⟩=false):=by
 have hc:∀j,w.cell? ⟨g,j,Ae⟩= #[a,b][j]? :=λj=>Bz w g j _ t (0,0) h;have hf:∀j,w.frozen? ⟨g,j,Ae⟩=false:=λj=>by simp[Ea,h]
 exact⟨⟨hc 0,hc 1⟩,hf 0,hf 1⟩
def Hg {a b c:Ak} (h:w.heap[g]? =Af (.cells #[a,b,c] t (0,0))):(w.cell? ⟨g,0,Ae⟩=Af a/\w.cell? ⟨g,1,Ae⟩=Af b/\w.cell? ⟨g,2,Ae⟩=Af c)/\(w.frozen? ⟨g,0,Ae⟩=false/\w.frozen? ⟨g,1,Ae⟩=false/\w.frozen? ⟨g,2,Ae⟩=false):=by
 have hc:∀j,w.cell? ⟨g,j,Ae⟩= #[a,b,c][j]? :=λj=>Bz w g j _ t (0,0) h;have hf:∀j,w.frozen? ⟨g,j,Ae⟩=false:=λj=>by simp[Ea,h]
 exact⟨⟨hc 0,hc 1,hc 2⟩,hf 0,hf 1,hf 2⟩
def Jh {a b c d:Ak} (h:w.heap[g]? =Af (.cells #[a,b,c,d] t (0,0))):(w.cell? ⟨g,0,Ae⟩=Af a/\w.cell? ⟨g,1,Ae⟩=Af b/\w.cell? ⟨g,2,Ae⟩=Af c/\w.cell? ⟨g,3,Ae⟩=Af d)/\(w.frozen? ⟨g,0,Ae⟩=false/\w.frozen? ⟨g,1,Ae⟩=false/\w.frozen? ⟨g,2,Ae⟩=false/\w.frozen? ⟨g,3,Ae⟩=false):=by
 have hc:∀j,w.cell? ⟨g,j,Ae⟩= #[a,b,c,d][j]? :=λj=>Bz w g j _ t (0,0) h;have hf:∀j,w.frozen? ⟨g,j,Ae⟩=false:=λj=>by simp[Ea,h]
 exact⟨⟨hc 0,hc 1,hc 2,hc 3⟩,hf 0,hf 1,hf 2,hf 3⟩
def okC (x y q:Int):Bool:=decide (-4096<=x)&&decide (x<=4096)&&decide (-4096<=y)&&decide (y<=4096)&&decide (q<=3)
def Jq:okC x y q=true↔-4096<=x/\x<=4096/\-4096<=y/\y<=4096/\q<=3:=by
 unfold okC;simp;omega
def Bz2 (h:¬(-4096<=x/\x<=4096/\-4096<=y/\y<=4096/\q<=3)):okC x y q=false:=by
 rw[<-Ep,Jq];exact h
def ec (b:Bool) (e:Int):Int:=if b then 0 else e
def Lq (e:Int):ec true e=0:=rfl
def Qm (e:Int):ec false e=e:=rfl
def Jg (x y q:Int) (w:Aj):
  Al Dp 120 #[.agg #[x,y,Aa Ac q]] w (Gz (Aa Ab (ec (okC x y q) 1)) w):=by
 go_in;go_wp2_with fail
 all_goals go_ret
 all_goals refine⟨Iw ?_,(Ag _ _).alloc (Am _) _⟩
 all_goals first|rw[Bz2 Gv,Qm]|rw[Jq.2 Gv,Lq]
def okS (a b:Int):Bool:=decide (1<=a)&&decide (1<=b)&&decide (a<=256)&&decide (b<=256)&&decide (a*b<=256)
def dL {a b:Int}:okS a b=true↔1<=a/\1<=b/\a<=256/\b<=256/\a*b<=256:=by
 unfold okS;simp only[Em,Li,and_assoc]
def Ay5 {a b:Int} (h:¬(1<=a/\1<=b/\a<=256/\b<=256/\a*b<=256)):okS a b=false:=by
 rw[<-Ep,dL];exact h
def Js (a b:Int) (w:Aj):
  Al Dp 58 #[.agg #[a,b]] w (Gz (Aa Ab (ec (okS a b) 1)) w):=by
 by_cases hr:1<=a/\1<=b/\a<=256/\b<=256
 ·obtain⟨h1,h2,h3,h4⟩:=hr
  have hm:0<=a*b/\a*b<=65536:=by
   refine⟨Int.mul_nonneg Gv Gv,?_⟩;have e1:a*b<=256*b:=Int.mul_le_mul_of_nonneg_right h3 Gv;omega
  obtain⟨m,P3⟩:=ey (a*b);rw[P3]at hm;obtain⟨pm,OC⟩:=hm
  have e:okS a b=decide (m<=256):=by
   by_cases hk:m<=256
   ·rw[dL.2 ⟨h1,h2,h3,h4,Gv⟩];simp[hk]
   ·rw[Ay5 (λh=>hk (oHx h.2.2.2.2))];simp[hk]
  rw[e];clear e;go_in;go_wp2_with fail
  all_goals go_ret
  all_goals refine⟨Iw ?_,(Ag _ _).alloc (Am _) _⟩
  all_goals first|rw[Me Gv,Qm]|rw[Ld Gv,Lq]
 ·rw[Ay5 (λh=>hr ⟨h.1,h.2.1,h.2.2.1,h.2.2.2.1⟩),Qm];go_in;go_wp2_with fail
  all_goals go_ret
  all_goals first|exact⟨rfl,(Ag _ _).alloc (Am _) _⟩|(exfalso;omega)
def okL (k c:Int):Bool:=decide (1<=k)&&decide (k<=4)&&decide (-4096<=c)&&decide (c<=4096)
def Mu {k c:Int}:okL k c=true↔1<=k/\k<=4/\-4096<=c/\c<=4096:=by unfold okL;simp;omega
def Bz3 {k c:Int} (h:¬(1<=k/\k<=4/\-4096<=c/\c<=4096)):okL k c=false:=by rw[<-Ep,Mu];exact h
def okP (x y:Int):Bool:=decide (-65536<=x)&&decide (x<=65536)&&decide (-65536<=y)&&decide (y<=65536)
def Wh:okP x y=true↔-65536<=x/\x<=65536/\-65536<=y/\y<=65536:=by unfold okP;simp;omega
def Bz4 (h:¬(-65536<=x/\x<=65536/\-65536<=y/\y<=65536)):okP x y=false:=by rw[<-Ep,Wh];exact h
def Mp (k x y:Int):Int:=if k=1 then x else if k=2 then y else if k=3 then x+y else y-x
def Oy (k c x y:Int):Int:=if Mp k x y<2*c then-1 else if 2*c<Mp k x y then 1 else 0
def Xe (n:Int):Bool:=decide (-16384<=n)&&decide (n<=16384)
def okM (t x y:Int):Bool:=decide (t<8)&&Xe x&&Xe y&&decide ((x+y)%2=0)
def Ry {t x y:Int}:okM t x y=true↔t<8/\(-16384<=x/\x<=16384)/\(-16384<=y/\y<=16384)/\(x+y)%2=0:=by
 unfold okM Xe;simp only[Em,Li,and_assoc]
def mat:Nat->Int×Int×Int×Int
 |0=>(1,0,0,1)|1=>(0,-1,1,0)|2=>(-1,0,0,-1)|3=>(0,1,-1,0)
 |4=>(-1,0,0,1)|5=>(0,-1,-1,0)|6=>(1,0,0,-1)|_=>(0,1,1,0)
def Ii (m:Int×Int×Int×Int) (x y:Int):Int×Int:=(m.1*x+m.2.1*y,m.2.2.1*x+m.2.2.2*y)
def Iq (m n:Int×Int×Int×Int):Int×Int×Int×Int:=((Ii n m.1 m.2.2.1).1,(Ii n m.2.1 m.2.2.2).1,(Ii n m.1 m.2.2.1).2,(Ii n m.2.1 m.2.2.2).2)
def Lb (m:Int×Int×Int×Int):Nat:=if m=mat 0 then 0 else if m=mat 1 then 1 else if m=mat 2 then 2 else if m=mat 3 then 3 else if m=mat 4 then 4 else if m=mat 5 then 5 else if m=mat 6 then 6 else if m=mat 7 then 7 else 0
structure Mv where
 t:Nat
 x:Int
 y:Int
deriving DecidableEq
def Mv.ok (m:Mv):Bool:=okM m.t m.x m.y
def Mv.cells (m:Mv):List Ak:=[Aa Ac m.t,Aa Ab m.x,Aa Ab m.y]
def Mv.v (m:Mv):Ak:= .agg #[Aa Ac m.t,Aa Ab m.x,Aa Ab m.y]
def mv0:Mv:=⟨0,0,0⟩
def ofL (k c:Int):Mv:=if k=1 then⟨4,2*c,0⟩else if k=2 then⟨6,0,2*c⟩else if k=3 then⟨5,c,c⟩else⟨7,-c,c⟩
def gY (m:Mv):Mv×Int:=if m.ok then (m,0)else (mv0,3)
def Vq (a b:Mv):Mv×Int:=gY ⟨Lb (Iq (mat a.t) (mat b.t)),(Ii (mat b.t) a.x a.y).1+b.x,(Ii (mat b.t) a.x a.y).2+b.y⟩
def Iy (m:Mv) (x y:Int):Int×Int:=((Ii (mat m.t) x y).1+2*m.x,(Ii (mat m.t) x y).2+2*m.y)
structure Cl where
 x:Int
 y:Int
 q:Nat
deriving DecidableEq
def Cl.ok (c:Cl):Bool:=okC c.x c.y c.q
def Cl.cells (c:Cl):List Ak:=[Aa Ab c.x,Aa Ab c.y,Aa Ac c.q]
def Cl.v (c:Cl):Ak:= .agg #[Aa Ab c.x,Aa Ab c.y,Aa Ac c.q]
def cl0:Cl:=⟨0,0,0⟩
def Iu:Nat->Int×Int
 |0=>(0,-1)|1=>(1,0)|2=>(0,1)|_=>(-1,0)
def Mb (d:Int×Int):Nat:=if d=Iu 3 then 3 else if d=Iu 2 then 2 else if d=Iu 1 then 1 else 0
def Ht (m:Mv) (c:Cl):Cl:=⟨(Iy m (2*c.x+1) (2*c.y+1)).1/2,(Iy m (2*c.x+1) (2*c.y+1)).2/2,Mb (Ii (mat m.t) (Iu c.q).1 (Iu c.q).2)⟩
def Lj (m:Mv) (c:Cl):Cl×Int:=if(Ht m c).ok then (Ht m c,0)else (cl0,3)
def Ue:Nat->Int×Int
 |0=>(0,0)|1=>(2,2)|2=>(2,2)|_=>(0,0)
def Uf:Nat->Int×Int
 |0=>(2,0)|1=>(2,0)|2=>(0,2)|_=>(0,2)
def Is (k c:Int) (e:Cl):Nat:=
 if Oy k c (2*e.x+1) (2*e.y+1)=1∨Oy k c (2*e.x+(Ue e.q).1) (2*e.y+(Ue e.q).2)=1∨Oy k c (2*e.x+(Uf e.q).1) (2*e.y+(Uf e.q).2)=1 then 1 else 0
def Ka (a b:Cl):Int:=if Ik a.y b.y≠0 then Ik a.y b.y else if Ik a.x b.x≠0 then Ik a.x b.x else Ik a.q b.q
def Jp (c:Cl) (e:Nat):Int×Int:=
 if e=1 then (3,c.x+c.y+1)else if e=2 then (4,c.y-c.x)
 else match c.q with
  |0=>(2,c.y)|1=>(1,c.x+1)|2=>(2,c.y+1)|_=>(1,c.x)
def Xc (c:Cl) (e:Nat):(Int×Int)×Int:=if okL (Jp c e).1 (Jp c e).2 then (Jp c e,0)else ((0,0),3)
structure Bx (w:Aj) (l:List (Nat×Array Ak×Ck)) (wr:Aj):Prop where
 below:Below w.heap.size w wr
 blk:∀(i g:Nat) (cs:Array Ak) (t:Ck),l[i]? =Af (g,cs,t)->wr.heap[g]? =Af (Co cs t (0,0))
 lo:∀(i g:Nat) (cs:Array Ak) (t:Ck),l[i]? =Af (g,cs,t)->w.heap.size<=g
 inj:∀(i j g:Nat) (cs:Array Ak) (t:Ck) (ds:Array Ak) (u:Ck),l[i]? =Af (g,cs,t)->l[j]? =Af (g,ds,u)->i=j
section
variable {w wr w2:Aj} {l:List (Nat×Array Ak×Ck)}
def Bx.start (w:Aj):Bx w [] w:=⟨Ag _ _,Gy,Gy,Gy⟩
def Bx.lt (h:Bx w l wr) (i:Nat) (hi:l[i]? =Af (g,cs,t)):g<wr.heap.size:=(Au.1 (h.blk i g cs t hi)).1
def Bx.call (h:Bx w l wr) (hb:Below wr.heap.size wr w2):Bx w l w2:=
 ⟨Up h.below hb,λi g cs t hi=>kept hb (h.blk i g cs t hi) (h.lt i hi),h.lo,h.inj⟩
def Bx.drew (h:Bx w l wr):Bx w l wr.drew:=⟨h.below.drew,h.blk,h.lo,h.inj⟩
def Bx.drewN (h:Bx w l wr) (n:Nat):Bx w l (wr.drewN n):=⟨Ic h.below n,h.blk,h.lo,h.inj⟩
def Bx.other (h:Bx w l wr) (o:Obj):Bx w l (wr.alloc o):=h.call ((Ag _ _).alloc (Am _) o)
def Bx.new (h:Bx w l wr) (cs:Array Ak) (t:Ck) (hN:wr.heap.size=N):Bx w (l++[(N,cs,t)]) (wr.alloc (.cells cs t)):=by
 subst hN;have h0:=h.other (Co cs t)
 have hk:∀(i g:Nat) (ds:Array Ak) (u:Ck),(l++[(wr.heap.size,cs,t)])[i]? =Af (g,ds,u)->(i<l.length/\l[i]? =Af (g,ds,u))∨(i=l.length/\g=wr.heap.size/\ds=cs/\u=t):=by
  intro i g ds u hi;by_cases hl:i<l.length
  ·rw[Fk hl]at hi;exact .inl ⟨hl,hi⟩
  ·have uo:i<(l++[(wr.heap.size,cs,t)]).length:=(Ax.1 hi).1;simp at uo;have:i=l.length:=Gv;subst this;rw[Eg (Am _),Fo]at hi;simp at hi;exact .inr ⟨rfl,hi.1.symm,hi.2.1.symm,hi.2.2.symm⟩
 refine⟨h0.below,?_,?_,?_⟩
 ·intro i g ds u hi;rcases hk i g ds u hi with⟨_,h1⟩|⟨_,rfl,rfl,rfl⟩
  ·exact h0.blk i g ds u h1
  ·exact Ca wr _
 ·intro i g ds u hi;rcases hk i g ds u hi with⟨_,h1⟩|⟨_,rfl,rfl,rfl⟩
  ·exact h.lo i g ds u h1
  ·exact h.below.size
 ·intro i j g ds u es v hi hj;rcases hk i g ds u hi with⟨_,h1⟩|⟨h1,rfl,_,_⟩
  ·rcases hk j g es v hj with⟨_,h2⟩|⟨_,rfl,_,_⟩
   ·exact h.inj i j g ds u es v h1 h2
   ·exact absurd (h.lt i h1) Gv
  ·rcases hk j _ es v hj with⟨_,h2⟩|⟨h2,_,_,_⟩
   ·exact absurd (h.lt j h2) Gv
   ·omega
def Ju (v:Ak) (hg:wr.heap[g]? =Af (Co cs t (0,0))):(wr.setCell ⟨g,j,Ae⟩ v).heap[g]? =Af (.cells (cs.setIfInBounds j v) t (0,0)):=by
 simp[World.setCell,Array.getElem?_modify,hg]
def Bx.set (h:Bx w l wr) (i j:Nat) (hi:l[i]? =Af (g,cs,t)) (v:Ak):
  Bx w (l.set i (g,cs.setIfInBounds j v,t)) (wr.setCell ⟨g,j,Ae⟩ v):=by
 have bv:i<l.length:=(Ax.1 hi).1
 have hk:∀(k g':Nat) (ds:Array Ak) (u:Ck),(l.set i (g,cs.setIfInBounds j v,t))[k]? =Af (g',ds,u)->(k≠i/\l[k]? =Af (g',ds,u))∨(k=i/\g'=g/\ds=cs.setIfInBounds j v/\u=t):=by
  intro k g' ds u hk;by_cases JU:k=i
  ·subst JU;rw[List.getElem?_set_self bv]at hk;simp at hk;exact .inr ⟨rfl,hk.1.symm,hk.2.1.symm,hk.2.2.symm⟩
  ·rw[List.getElem?_set_ne (Ne.symm JU)]at hk;exact .inl ⟨JU,hk⟩
 refine⟨h.below.setCell (h.lo i g cs t hi) v,?_,?_,?_⟩
 ·intro k g' ds u zv;rcases hk k g' ds u zv with⟨hne,h1⟩|⟨_,rfl,rfl,rfl⟩
  ·have EY:g'≠g:=λe=>by subst e;exact hne (h.inj k i _ _ _ _ _ h1 hi)
   exact(Dq wr ⟨g,j,Ae⟩ v g' EY).trans (h.blk k g' ds u h1)
  ·exact Ju v (h.blk i _ cs _ hi)
 ·intro k g' ds u zv;rcases hk k g' ds u zv with⟨_,h1⟩|⟨_,rfl,_,_⟩
  ·exact h.lo k g' ds u h1
  ·exact h.lo i _ cs t hi
 ·intro a b g' ds u es v' ha hb;rcases hk a g' ds u ha with⟨h0,h1⟩|⟨rfl,rfl,_,_⟩
  ·rcases hk b g' es v' hb with⟨_,h2⟩|⟨rfl,rfl,_,_⟩
   ·exact h.inj a b g' ds u es v' h1 h2
   ·exact h.inj a b _ ds u cs t h1 hi
  ·rcases hk b _ es v' hb with⟨_,h2⟩|⟨rfl,_,_,_⟩
   ·exact h.inj a b _ cs t es v' hi h2
   ·rfl
end
def Qi:∀(vs:List Ak) (o:Nat) (w:Aj) (cs:Array Ak),w.heap[g]? =Af (Co cs t (0,0))->o+vs.length<=cs.size->
  (w.setCells g o vs).heap[g]? =Af (Co (cs.toList.take o++vs++cs.toList.drop (o+vs.length)).toArray t (0,0))
 |[],o,w,cs,hg,_=>by simp[World.setCells,hg]
 |v::r,o,w,cs,hg,hl=>by
  simp only[Eo]at hl;rw[World.setCells,Qi r (o+1) _ _ (Ju v hg) Hv]
  congr 2
  apply Array.ext';simp only[Array.toList_setIfInBounds,Eo]
  have hs:cs.toList.set o v=cs.toList.take o++v::cs.toList.drop (o+1):=by
   rw[List.set_eq_take_append_cons_drop,Hc Hv]
  have e1:(cs.toList.set o v).take (o+1)=cs.toList.take o++[v]:=by
   rw[hs,List.take_append,Bm,Nat.min_eq_left Hv,List.take_take,Nat.min_eq_right Gv,show o+1-o=1 by omega];rfl
  have e2:(cs.toList.set o v).drop (o+1+r.length)=cs.toList.drop (o+(r.length+1)):=by
   rw[List.drop_set_of_lt Gv];congr 1;omega
  rw[e1,e2];simp
def Zp (hg:w.heap[g]? =Af (Co cs t (0,0))) (vs:List Ak) (hl:vs.length=cs.size):
  (w.setCells g 0 vs).heap[g]? =Af (Co vs.toArray t (0,0)):=by
 rw[Qi vs 0 w cs hg Gv];have:List.drop (0+vs.length) cs.toList=[]:=List.drop_of_length_le Hv;rw[this];simp
def Oj (h:Below B a w) (hg:B<=g):∀(vs:List Ak) (o:Nat),Below B a (w.setCells g o vs):=by
 intro vs
 induction vs generalizing w with
 |nil=>intro o;exact h
 |cons v r ih=>intro o;exact ih (h.setCell (p:=⟨g,o,Ae⟩) hg v) (o+1)
section
variable {w wr:Aj} {l:List (Nat×Array Ak×Ck)}
def Bx.range (h:Bx w l wr) (i:Nat) (hi:l[i]? =Af (g,cs,t)):wr.rangeAt g 0 cs.toList:=λj v hj=>by
 rw[Bu,Bz wr g j cs t (0,0) (h.blk i g cs t hi)];simpa using hj
def Bx.there (h:Bx w l wr) (i:Nat) (hi:l[i]? =Af (g,cs,t)):wr.there g 0 cs.size:=λj hj=>by
 have hb:=h.blk i g cs t hi;rw[Bu,Bz wr g j cs t (0,0) hb];exact⟨by simp[hj],by simp[Ea,hb]⟩
def Bx.setAll (h:Bx w l wr) (i:Nat) (hi:l[i]? =Af (g,cs,t)) (vs:List Ak) (hl:vs.length=cs.size):
  Bx w (l.set i (g,vs.toArray,t)) (wr.setCells g 0 vs):=by
 have bv:i<l.length:=(Ax.1 hi).1
 have hk:∀(k g':Nat) (ds:Array Ak) (u:Ck),(l.set i (g,vs.toArray,t))[k]? =Af (g',ds,u)->(k≠i/\l[k]? =Af (g',ds,u))∨(k=i/\g'=g/\ds=vs.toArray/\u=t):=by
  intro k g' ds u hk;by_cases JU:k=i
  ·subst JU;rw[List.getElem?_set_self bv]at hk;simp at hk;exact .inr ⟨rfl,hk.1.symm,hk.2.1.symm,hk.2.2.symm⟩
  ·rw[List.getElem?_set_ne (Ne.symm JU)]at hk;exact .inl ⟨JU,hk⟩
 refine⟨Oj h.below (h.lo i g cs t hi) vs 0,?_,?_,?_⟩
 ·intro k g' ds u zv;rcases hk k g' ds u zv with⟨hne,h1⟩|⟨_,rfl,rfl,rfl⟩
  ·have EY:g'≠g:=λe=>by subst e;exact hne (h.inj k i _ _ _ _ _ h1 hi)
   exact(World.heap_setCells_other wr g 0 vs (h.lt k h1) EY).trans (h.blk k g' ds u h1)
  ·exact Zp (h.blk i _ cs _ hi) vs hl
 ·intro k g' ds u zv;rcases hk k g' ds u zv with⟨_,h1⟩|⟨_,rfl,_,_⟩
  ·exact h.lo k g' ds u h1
  ·exact h.lo i _ cs t hi
 ·intro a b g' ds u es v' ha hb;rcases hk a g' ds u ha with⟨h0,h1⟩|⟨rfl,rfl,_,_⟩
  ·rcases hk b g' es v' hb with⟨_,h2⟩|⟨rfl,rfl,_,_⟩
   ·exact h.inj a b g' ds u es v' h1 h2
   ·exact h.inj a b _ ds u cs t h1 hi
  ·rcases hk b _ es v' hb with⟨_,h2⟩|⟨rfl,_,_,_⟩
   ·exact h.inj a b _ cs t es v' hi h2
   ·rfl
end
def Lv (hr:fn.results= #[.cell s t]) (hs:tmps.getD s undef= .pointer (Af ⟨g,0,Ae⟩))
  (hc:w.rangeAt g 0 cs.toList) (hu:P.underlying t=Af d) (hd:d.isRow=true) (hi:(P.info? t).map (·.size)=Af cs.size):(results fn tmps).run P w= .ok (.agg cs) w:=by
 have h:=run_loadVar_mid (P:=P) w g 0 t cs.toList d hc hu hd (by simpa using hi);have e:tmps[s]?.getD undef= .pointer (Af ⟨g,0,Ae⟩):=by rw[<-hs];simp
 simp[results,hr,e,asAddr,h]
def Hj (hr:fn.results= #[.cell s t,.tmp u]) (hs:tmps.getD s undef= .pointer (Af ⟨g,0,Ae⟩))
  (hc:w.rangeAt g 0 cs.toList) (hu:P.underlying t=Af d) (hd:d.isRow=true) (hi:(P.info? t).map (·.size)=Af cs.size):(results fn tmps).run P w= .ok (.tuple #[.agg cs,tmps.getD u undef]) w:=by
 have h:=run_loadVar_mid (P:=P) w g 0 t cs.toList d hc hu hd (by simpa using hi);have e:tmps[s]?.getD undef= .pointer (Af ⟨g,0,Ae⟩):=by rw[<-hs];simp
 simp[results,hr,e,asAddr,h]
section
variable {P:Program} {ops:Array Oper} {Q:Exit->Act->Aj->Prop} {md:Region.Mode} {S:Aj->Prop} {oi:Oper} {v:Ak} {fuel:Nat} {listed l':Array Bool} {a a':Act} {w:Aj}
def Ke (i:Nat) (h:wpAnyH P md ops Q S fuel l' a' w) (hi:ops[i]? =Af oi:=by exact rfl)
  (hy:Dz oi (yielded ops a.tmps)=true/\(∀w,S w->(execOp a.eval oi).run P w= .ok (.value v) w)∨Dz oi (yielded ops a.tmps)=false/\v=undef:=by
   first
    |exact .inr ⟨by rfl,rfl⟩
    |refine .inl ⟨by rfl,?_⟩
     intro w0 hSw
     first|have hSw:=HSO.out _ hSw|(try dsimp only at hSw)
     go_split_ands;go_simp
     try with_reducible rfl)
  (hl:listed.setIfInBounds i true=l':=by
   (try simp only[Ci,Cg,Ch])
   exact rfl)
  (ha:a.put oi.dst v=a':=by
   (try simp only[Act.put,Cf,Cd,Ce,Ci,Cg,Ch])
   exact rfl)
  (hS:S w:=by exact hS)
  (hs:Region.noSelect ops=true:=by kernel_rfl) (hf:Region.free md ops listed i=true:=by kernel_rfl) (hr:(Region.ready md ops listed).contains i=true:=by kernel_rfl)
  (hQ:∀c a w,Q (.panic c) (a.put oi.dst v) w->Q (.panic c) a w:=by exact λ_ _ _ h=>h):wpAnyH P md ops Q S (fuel+1) listed a w:=by
 subst hl ha;exact wpAnyH_take hi hs hf hr hQ (hy.imp id id) hS h
def rdy (i:Nat) (h:∀K':Act->Aj->Prop,Shut (∀a w,S w->(S w->wpAnyH P md ops Q S fuel (listed.setIfInBounds i true) a w)->K' a w)->if Dz oi (yielded ops a.tmps)=true then Oper.wp P oi a w K' Q else K' (a.put oi.dst undef) w)
  (hi:ops[i]? =Af oi:=by exact rfl) (hr:Region.ready md ops listed=[i]:=by kernel_rfl):wpAnyH P md ops Q S (fuel+1) listed a w:=
 wpAnyH_ready hr Gy (AllReadyH.cons hi h AllReadyH.nil)
end
def Bx.b {l:List (Nat×Array Ak×Ck)} (h:Bx w l wr) (i:Nat) (e:l[i]? =Af (g,cs,t):=by exact rfl):wr.heap[g]? =Af (Co cs t (0,0)):=h.blk i g cs t e
def Og (C:Aj->Prop):∃S:Aj->Prop,S=C/\Hid (∀W,S W->C W):=⟨C,rfl,λ_ h=>h⟩
section
variable {P:Program} {ops:Array Oper} {Q:Exit->Act->Aj->Prop} {md:Region.Mode} {S:Aj->Prop} {o1 o2 o3 o4:Oper} {v1 v2 v3 v4:Ak} {fuel:Nat} {l0 l1 l2 l3 l4:Array Bool} {a0 a1 a2 a3 a4:Act} {w:Aj}
def Ql (i1 i2:Nat) (h:wpAnyH P md ops Q S fuel l2 a2 w)
  (ye:ops[i1]? =Af o1:=by exact rfl)
  (qv:Dz o1 (yielded ops a0.tmps)=true/\(∀w,S w->(execOp a0.eval o1).run P w= .ok (.value v1) w)∨Dz o1 (yielded ops a0.tmps)=false/\v1=undef:=by
   first
    |exact .inr ⟨by rfl,rfl⟩
    |refine .inl ⟨by rfl,?_⟩
     intro w0 hSw
     first|have hSw:=HSO.out _ hSw|(try dsimp only at hSw)
     go_split_ands;go_simp
     try with_reducible rfl)
  (ig:l0.setIfInBounds i1 true=l1:=by
   (try simp only[Ci,Cg,Ch])
   exact rfl)
  (ER:a0.put o1.dst v1=a1:=by
   (try simp only[Act.put,Cf,Cd,Ce,Ci,Cg,Ch])
   exact rfl)
  (BQ:Region.free md ops l0 i1=true:=by kernel_rfl) (ws:(Region.ready md ops l0).contains i1=true:=by kernel_rfl)
  (JN:∀c a w,Q (.panic c) (a.put o1.dst v1) w->Q (.panic c) a w:=by exact λ_ _ _ h=>h)
  (DE:ops[i2]? =Af o2:=by exact rfl)
  (vu:Dz o2 (yielded ops a1.tmps)=true/\(∀w,S w->(execOp a1.eval o2).run P w= .ok (.value v2) w)∨Dz o2 (yielded ops a1.tmps)=false/\v2=undef:=by
   first
    |exact .inr ⟨by rfl,rfl⟩
    |refine .inl ⟨by rfl,?_⟩
     intro w0 hSw
     first|have hSw:=HSO.out _ hSw|(try dsimp only at hSw)
     go_split_ands;go_simp
     try with_reducible rfl)
  (mo:l1.setIfInBounds i2 true=l2:=by
   (try simp only[Ci,Cg,Ch])
   exact rfl)
  (H_:a1.put o2.dst v2=a2:=by
   (try simp only[Act.put,Cf,Cd,Ce,Ci,Cg,Ch])
   exact rfl)
  (BR:Region.free md ops l1 i2=true:=by kernel_rfl) (gp:(Region.ready md ops l1).contains i2=true:=by kernel_rfl)
  (rn:∀c a w,Q (.panic c) (a.put o2.dst v2) w->Q (.panic c) a w:=by exact λ_ _ _ h=>h)
  (hS:S w:=by exact hS) (hs:Region.noSelect ops=true:=by kernel_rfl):wpAnyH P md ops Q S (fuel+2) l0 a0 w:=
 Ke i1 (Ke i2 (h) DE vu mo H_ hS hs BR gp rn) ye qv ig ER hS hs BQ ws JN
def Oe (i1 i2 i3:Nat) (h:wpAnyH P md ops Q S fuel l3 a3 w)
  (ye:ops[i1]? =Af o1:=by exact rfl)
  (qv:Dz o1 (yielded ops a0.tmps)=true/\(∀w,S w->(execOp a0.eval o1).run P w= .ok (.value v1) w)∨Dz o1 (yielded ops a0.tmps)=false/\v1=undef:=by
   first
    |exact .inr ⟨by rfl,rfl⟩
    |refine .inl ⟨by rfl,?_⟩
     intro w0 hSw
     first|have hSw:=HSO.out _ hSw|(try dsimp only at hSw)
     go_split_ands;go_simp
     try with_reducible rfl)
  (ig:l0.setIfInBounds i1 true=l1:=by
   (try simp only[Ci,Cg,Ch])
   exact rfl)
  (ER:a0.put o1.dst v1=a1:=by
   (try simp only[Act.put,Cf,Cd,Ce,Ci,Cg,Ch])
   exact rfl)
  (BQ:Region.free md ops l0 i1=true:=by kernel_rfl) (ws:(Region.ready md ops l0).contains i1=true:=by kernel_rfl)
  (JN:∀c a w,Q (.panic c) (a.put o1.dst v1) w->Q (.panic c) a w:=by exact λ_ _ _ h=>h)
  (DE:ops[i2]? =Af o2:=by exact rfl)
  (vu:Dz o2 (yielded ops a1.tmps)=true/\(∀w,S w->(execOp a1.eval o2).run P w= .ok (.value v2) w)∨Dz o2 (yielded ops a1.tmps)=false/\v2=undef:=by
   first
    |exact .inr ⟨by rfl,rfl⟩
    |refine .inl ⟨by rfl,?_⟩
     intro w0 hSw
     first|have hSw:=HSO.out _ hSw|(try dsimp only at hSw)
     go_split_ands;go_simp
     try with_reducible rfl)
  (mo:l1.setIfInBounds i2 true=l2:=by
   (try simp only[Ci,Cg,Ch])
   exact rfl)
  (H_:a1.put o2.dst v2=a2:=by
   (try simp only[Act.put,Cf,Cd,Ce,Ci,Cg,Ch])
   exact rfl)
  (BR:Region.free md ops l1 i2=true:=by kernel_rfl) (gp:(Region.ready md ops l1).contains i2=true:=by kernel_rfl)
  (rn:∀c a w,Q (.panic c) (a.put o2.dst v2) w->Q (.panic c) a w:=by exact λ_ _ _ h=>h)
  (UN:ops[i3]? =Af o3:=by exact rfl)
  (PE:Dz o3 (yielded ops a2.tmps)=true/\(∀w,S w->(execOp a2.eval o3).run P w= .ok (.value v3) w)∨Dz o3 (yielded ops a2.tmps)=false/\v3=undef:=by
   first
    |exact .inr ⟨by rfl,rfl⟩
    |refine .inl ⟨by rfl,?_⟩
     intro w0 hSw
     first|have hSw:=HSO.out _ hSw|(try dsimp only at hSw)
     go_split_ands;go_simp
     try with_reducible rfl)
  (DH:l2.setIfInBounds i3 true=l3:=by
   (try simp only[Ci,Cg,Ch])
   exact rfl)
  (ha3:a2.put o3.dst v3=a3:=by
   (try simp only[Act.put,Cf,Cd,Ce,Ci,Cg,Ch])
   exact rfl)
  (XT:Region.free md ops l2 i3=true:=by kernel_rfl) (IN:(Region.ready md ops l2).contains i3=true:=by kernel_rfl)
  (C_:∀c a w,Q (.panic c) (a.put o3.dst v3) w->Q (.panic c) a w:=by exact λ_ _ _ h=>h)
  (hS:S w:=by exact hS) (hs:Region.noSelect ops=true:=by kernel_rfl):wpAnyH P md ops Q S (fuel+3) l0 a0 w:=
 Ke i1 (Ke i2 (Ke i3 (h) UN PE DH ha3 hS hs XT IN C_) DE vu mo H_ hS hs BR gp rn) ye qv ig ER hS hs BQ ws JN
def Hk (i1 i2 i3 i4:Nat) (h:wpAnyH P md ops Q S fuel l4 a4 w)
  (ye:ops[i1]? =Af o1:=by exact rfl)
  (qv:Dz o1 (yielded ops a0.tmps)=true/\(∀w,S w->(execOp a0.eval o1).run P w= .ok (.value v1) w)∨Dz o1 (yielded ops a0.tmps)=false/\v1=undef:=by
   first
    |exact .inr ⟨by rfl,rfl⟩
    |refine .inl ⟨by rfl,?_⟩
     intro w0 hSw
     first|have hSw:=HSO.out _ hSw|(try dsimp only at hSw)
     go_split_ands;go_simp
     try with_reducible rfl)
  (ig:l0.setIfInBounds i1 true=l1:=by
   (try simp only[Ci,Cg,Ch])
   exact rfl)
  (ER:a0.put o1.dst v1=a1:=by
   (try simp only[Act.put,Cf,Cd,Ce,Ci,Cg,Ch])
   exact rfl)
  (BQ:Region.free md ops l0 i1=true:=by kernel_rfl) (ws:(Region.ready md ops l0).contains i1=true:=by kernel_rfl)
  (JN:∀c a w,Q (.panic c) (a.put o1.dst v1) w->Q (.panic c) a w:=by exact λ_ _ _ h=>h)
  (DE:ops[i2]? =Af o2:=by exact rfl)
  (vu:Dz o2 (yielded ops a1.tmps)=true/\(∀w,S w->(execOp a1.eval o2).run P w= .ok (.value v2) w)∨Dz o2 (yielded ops a1.tmps)=false/\v2=undef:=by
   first
    |exact .inr ⟨by rfl,rfl⟩
    |refine .inl ⟨by rfl,?_⟩
     intro w0 hSw
     first|have hSw:=HSO.out _ hSw|(try dsimp only at hSw)
     go_split_ands;go_simp
     try with_reducible rfl)
  (mo:l1.setIfInBounds i2 true=l2:=by
   (try simp only[Ci,Cg,Ch])
   exact rfl)
  (H_:a1.put o2.dst v2=a2:=by
   (try simp only[Act.put,Cf,Cd,Ce,Ci,Cg,Ch])
   exact rfl)
  (BR:Region.free md ops l1 i2=true:=by kernel_rfl) (gp:(Region.ready md ops l1).contains i2=true:=by kernel_rfl)
  (rn:∀c a w,Q (.panic c) (a.put o2.dst v2) w->Q (.panic c) a w:=by exact λ_ _ _ h=>h)
  (UN:ops[i3]? =Af o3:=by exact rfl)
  (PE:Dz o3 (yielded ops a2.tmps)=true/\(∀w,S w->(execOp a2.eval o3).run P w= .ok (.value v3) w)∨Dz o3 (yielded ops a2.tmps)=false/\v3=undef:=by
   first
    |exact .inr ⟨by rfl,rfl⟩
    |refine .inl ⟨by rfl,?_⟩
     intro w0 hSw
     first|have hSw:=HSO.out _ hSw|(try dsimp only at hSw)
     go_split_ands;go_simp
     try with_reducible rfl)
  (DH:l2.setIfInBounds i3 true=l3:=by
   (try simp only[Ci,Cg,Ch])
   exact rfl)
  (ha3:a2.put o3.dst v3=a3:=by
   (try simp only[Act.put,Cf,Cd,Ce,Ci,Cg,Ch])
   exact rfl)
  (XT:Region.free md ops l2 i3=true:=by kernel_rfl) (IN:(Region.ready md ops l2).contains i3=true:=by kernel_rfl)
  (C_:∀c a w,Q (.panic c) (a.put o3.dst v3) w->Q (.panic c) a w:=by exact λ_ _ _ h=>h)
  (N_:ops[i4]? =Af o4:=by exact rfl)
  (hy4:Dz o4 (yielded ops a3.tmps)=true/\(∀w,S w->(execOp a3.eval o4).run P w= .ok (.value v4) w)∨Dz o4 (yielded ops a3.tmps)=false/\v4=undef:=by
   first
    |exact .inr ⟨by rfl,rfl⟩
    |refine .inl ⟨by rfl,?_⟩
     intro w0 hSw
     first|have hSw:=HSO.out _ hSw|(try dsimp only at hSw)
     go_split_ands;go_simp
     try with_reducible rfl)
  (QU:l3.setIfInBounds i4 true=l4:=by
   (try simp only[Ci,Cg,Ch])
   exact rfl)
  (ha4:a3.put o4.dst v4=a4:=by
   (try simp only[Act.put,Cf,Cd,Ce,Ci,Cg,Ch])
   exact rfl)
  (hf4:Region.free md ops l3 i4=true:=by kernel_rfl) (RF:(Region.ready md ops l3).contains i4=true:=by kernel_rfl)
  (hQ4:∀c a w,Q (.panic c) (a.put o4.dst v4) w->Q (.panic c) a w:=by exact λ_ _ _ h=>h)
  (hS:S w:=by exact hS) (hs:Region.noSelect ops=true:=by kernel_rfl):wpAnyH P md ops Q S (fuel+4) l0 a0 w:=
 Ke i1 (Ke i2 (Ke i3 (Ke i4 (h) N_ hy4 QU ha4 hS hs hf4 RF hQ4) UN PE DH ha3 hS hs XT IN C_) DE vu mo H_ hS hs BR gp rn) ye qv ig ER hS hs BQ ws JN
end
def Jm (k c:Int) (w:Aj):
  Al Dp 113 #[.agg #[Aa Ac k,c]] w (Gz (Aa Ab (ec (okL k c) 1)) w):=by
 go_in;go_wp2_with fail
 all_goals go_ret
 all_goals refine⟨Iw ?_,(Ag _ _).alloc (Am _) _⟩
 all_goals first|rw[Bz3 Gv,Qm]|rw[Mu.2 Gv,Lq]
def Ol (x y:Int) (w:Aj):
  Al Dp 223 #[.agg #[x,y]] w (Gz (Aa Ab (ec (okP x y) 1)) w):=by
 go_in;go_wp2_with fail
 all_goals go_ret
 all_goals refine⟨Iw ?_,(Ag _ _).alloc (Am _) _⟩
 all_goals first|rw[Bz4 Gv,Qm]|rw[Wh.2 Gv,Lq]
def Vw (k x y:Int) (w:Aj) (h:okP x y=true):
  Al Dp 264 #[Aa Ac k,.agg #[x,y]] w (Gz (Aa Ab (Mp k x y)) w):=by
 obtain⟨h1,h2,h3,h4⟩:=Wh.1 h;obtain⟨R,hR⟩:=ey (Mp k x y);rw[hR];have HR:=Ah hR;clear hR h;go_in;go_wp2_with fail
 all_goals go_ret
 all_goals refine⟨Iw ?_,(Ag _ _).alloc (Am _) _⟩
 all_goals rw[<-HR.out];unfold Mp
 all_goals simp_all
def fnV (f:FuncId):Ak:= .func (.func f) #[] #[]
def gF (p q:Ak):Ak:= .agg #[.nilFunc,.nilFunc,.nilFunc,fnV 263,fnV 265,fnV 266,fnV 267,fnV 268,fnV 269,
 fnV 270,fnV 271,.func (.func 272) #[] #[p],fnV 273,fnV 274,.func (.func 275) #[] #[q]]
def Wr (w:Aj):Al Dp 224 #[] w λe w'=>∃p q,e= .returned (gF p q)/\Below w.heap.size w w':=by
 have H:=Bx.start w;go_in;go_upto_region 1 with fail;obtain⟨N,hN⟩:=ez w.heap.size;rw[<-hN];have H:=H.new (#[.nilFunc,.nilFunc,.nilFunc,.nilFunc,.nilFunc,.nilFunc,.nilFunc,.nilFunc,.nilFunc,.nilFunc,.nilFunc,.nilFunc,.nilFunc,.nilFunc,.nilFunc]) 355 hN.symm;clear hN;go_upto_region 2 with go_region;obtain⟨P,hP⟩:=ez (w.heap.size+1);rw[<-hP];have H:=H.new #[Aa Ac 0,Aa Ac 2,Aa Ac 1,Aa Ac 4,Aa Ac 3] 389 (N:=P) (by simp[hP]);generalize (w.alloc _).alloc _=W at H⊢;have a0:=H.b 0;have fz:∀j,W.frozen? ⟨N,j,Ae⟩=false:=λj=>by simp[Ea,a0]
 have cz:=H.range 0 rfl;unfold World.rangeAt at cz;have c0:=cz 0 _ rfl;have f0:=fz 0;have c1:=cz 1 _ rfl;have f1:=fz 1;have c2:=cz 2 _ rfl;have f2:=fz 2;have c3:=cz 3 _ rfl;have f3:=fz 3;have c4:=cz 4 _ rfl;have f4:=fz 4;have c5:=cz 5 _ rfl;have f5:=fz 5;have c6:=cz 6 _ rfl;have f6:=fz 6;have c7:=cz 7 _ rfl;have f7:=fz 7;have c8:=cz 8 _ rfl;have f8:=fz 8;have c9:=cz 9 _ rfl;have f9:=fz 9;have c10:=cz 10 _ rfl;have f10:=fz 10;have c11:=cz 11 _ rfl;have f11:=fz 11;have c12:=cz 12 _ rfl;have f12:=fz 12;have c13:=cz 13 _ rfl;have f13:=fz 13;have c14:=cz 14 _ rfl;have f14:=fz 14;simp only[Bu]at c0 c1 c2 c3 c4 c5 c6 c7 c8 c9 c10 c11 c12 c13 c14;have H:=H.setAll 0 rfl [.nilFunc,.nilFunc,.nilFunc,fnV 263,fnV 265,fnV 266,fnV 267,fnV 268,fnV 269,
 fnV 270,fnV 271,.func (.func 272) #[] #[.pointer (Af ⟨P,0,Ae⟩)],fnV 273,fnV 274,.func (.func 275) #[] #[.pointer (Af ⟨P,0,Ae⟩)]] rfl
 have HH:=Ah H;clear hP a0 fz cz H;go_wp2_with go_region;exact Ai (Lv rfl rfl (HH.out.range 0 rfl) Tryz.underlying355 rfl Gx) rfl ⟨_,_,rfl,HH.out.below⟩
def wO (x y:Int) (w:Aj) (h:okP x y=true):Al Dp 263 #[.agg #[x,y]] w (Gz (Aa Ab (Mp 1 x y)) w):=by
 have H:=Ah h;clear h;go_in;go_wp2_with fail;refine(Vw 1 x y _ H.out).mono ?_;rintro e w2 ⟨rfl,hb⟩;have hb':Below w.heap.size w w2:=((Ag _ _).alloc (Am _) _).trans (hb.mono Gy);go_wp2;go_ret;exact⟨rfl,hb'⟩
def wP (x y:Int) (w:Aj) (h:okP x y=true):Al Dp 267 #[.agg #[x,y]] w (Gz (Aa Ab (Mp 2 x y)) w):=by
 have H:=Ah h;clear h;go_in;go_wp2_with fail;refine(Vw 2 x y _ H.out).mono ?_;rintro e w2 ⟨rfl,hb⟩;have hb':Below w.heap.size w w2:=((Ag _ _).alloc (Am _) _).trans (hb.mono Gy);go_wp2;go_ret;exact⟨rfl,hb'⟩
def wQ (x y:Int) (w:Aj) (h:okP x y=true):Al Dp 270 #[.agg #[x,y]] w (Gz (Aa Ab (Mp 3 x y)) w):=by
 have H:=Ah h;clear h;go_in;go_wp2_with fail;refine(Vw 3 x y _ H.out).mono ?_;rintro e w2 ⟨rfl,hb⟩;have hb':Below w.heap.size w w2:=((Ag _ _).alloc (Am _) _).trans (hb.mono Gy);go_wp2;go_ret;exact⟨rfl,hb'⟩
def wR (x y:Int) (w:Aj) (h:okP x y=true):Al Dp 273 #[.agg #[x,y]] w (Gz (Aa Ab (Mp 4 x y)) w):=by
 have H:=Ah h;clear h;go_in;go_wp2_with fail;refine(Vw 4 x y _ H.out).mono ?_;rintro e w2 ⟨rfl,hb⟩;have hb':Below w.heap.size w w2:=((Ag _ _).alloc (Am _) _).trans (hb.mono Gy);go_wp2;go_ret;exact⟨rfl,hb'⟩
def Bb2 (p q:Ak) (w:Aj):(Instr.index 355 (.agg #[.nilFunc,.nilFunc,.nilFunc,.func (.func 263) #[] #[],.func (.func 265) #[] #[],.func (.func 266) #[] #[],.func (.func 267) #[] #[],.func (.func 268) #[] #[],.func (.func 269) #[] #[],.func (.func 270) #[] #[],.func (.func 271) #[] #[],.func (.func 272) #[] #[p],.func (.func 273) #[] #[],.func (.func 274) #[] #[],.func (.func 275) #[] #[q]]) (Aa Ac 1)).run Dp w= .ok (.agg #[.func (.func 263) #[] #[],.func (.func 265) #[] #[],.func (.func 266) #[] #[]]) w:=Gx
def Bb3 (p q:Ak) (w:Aj):(Instr.index 355 (.agg #[.nilFunc,.nilFunc,.nilFunc,.func (.func 263) #[] #[],.func (.func 265) #[] #[],.func (.func 266) #[] #[],.func (.func 267) #[] #[],.func (.func 268) #[] #[],.func (.func 269) #[] #[],.func (.func 270) #[] #[],.func (.func 271) #[] #[],.func (.func 272) #[] #[p],.func (.func 273) #[] #[],.func (.func 274) #[] #[],.func (.func 275) #[] #[q]]) (Aa Ac 2)).run Dp w= .ok (.agg #[.func (.func 267) #[] #[],.func (.func 268) #[] #[],.func (.func 269) #[] #[]]) w:=Gx
def Bb4 (p q:Ak) (w:Aj):(Instr.index 355 (.agg #[.nilFunc,.nilFunc,.nilFunc,.func (.func 263) #[] #[],.func (.func 265) #[] #[],.func (.func 266) #[] #[],.func (.func 267) #[] #[],.func (.func 268) #[] #[],.func (.func 269) #[] #[],.func (.func 270) #[] #[],.func (.func 271) #[] #[],.func (.func 272) #[] #[p],.func (.func 273) #[] #[],.func (.func 274) #[] #[],.func (.func 275) #[] #[q]]) (Aa Ac 3)).run Dp w= .ok (.agg #[.func (.func 270) #[] #[],.func (.func 271) #[] #[],.func (.func 272) #[] #[p]]) w:=Gx
def Bb5 (p q:Ak) (w:Aj):(Instr.index 355 (.agg #[.nilFunc,.nilFunc,.nilFunc,.func (.func 263) #[] #[],.func (.func 265) #[] #[],.func (.func 266) #[] #[],.func (.func 267) #[] #[],.func (.func 268) #[] #[],.func (.func 269) #[] #[],.func (.func 270) #[] #[],.func (.func 271) #[] #[],.func (.func 272) #[] #[p],.func (.func 273) #[] #[],.func (.func 274) #[] #[],.func (.func 275) #[] #[q]]) (Aa Ac 4)).run Dp w= .ok (.agg #[.func (.func 273) #[] #[],.func (.func 274) #[] #[],.func (.func 275) #[] #[q]]) w:=Gx
def dO (a b c:Ak) (w:Aj):(Instr.field 354 (.agg #[a,b,c]) 0).run Dp w= .ok a w:=Gx
def gI (k c x y:Int):Int:=if okL k c&&okP x y then Oy k c x y else 0
def gK (k c x y:Int) (w:Aj) (di:0<=k):Al Dp 168 #[.agg #[Aa Ac k,c],.agg #[x,y]] w (Gz (Aa Ab (gI k c x y)) w):=by
 obtain⟨R,hR⟩:=ey (gI k c x y);rw[hR];have HR:=Ah hR;have H:=((Bx.start w).new #[Aa Ac k,c] 48 rfl).new #[x,y] 282 (N:=w.heap.size+1) Gy;clear hR;go_in;go_upto_region 1 with fail;generalize (w.alloc _).alloc _=W at H⊢;generalize w.heap.size=N at H⊢;obtain⟨⟨a0,a1⟩,_⟩:=Hm (H.b 0)
 cases hL:okL k c
 ·have HL:=Ah hL;have am:R=0:=by rw[<-HR.out];unfold gI;rw[HL.out];rfl
  clear hL;go_wp2_with fail;refine(Jm k c _).mono ?_;rintro e w2 ⟨rfl,hb⟩;rw[HL.out,Qm];have H2:=H.call hb;clear a0 a1 hb;go_wp2;go_ret;exact⟨Iw am.symm,H2.below⟩
 ·cases hP:okP x y
  ·have HL:=Ah hL;have HP:=Ah hP;have am:R=0:=by rw[<-HR.out];unfold gI;rw[HP.out,Bool.and_false];rfl
   clear hL hP;go_wp2_with fail;refine(Jm k c _).mono ?_;rintro e w2 ⟨rfl,hb⟩;rw[HL.out,Lq];have H2:=H.call hb;obtain⟨⟨p0,p1⟩,_⟩:=Hm (H2.b 1);clear a0 a1 hb H;go_wp2_with fail;refine(Ol x y _).mono ?_;rintro e w3 ⟨rfl,hb⟩;rw[HP.out,Qm];have H3:=H2.call hb;clear p0 p1 hb;go_wp2;go_ret;exact⟨Iw am.symm,H3.below⟩
  ·have HL:=Ah hL;have HP:=Ah hP;have am:R=Oy k c x y:=by rw[<-HR.out];unfold gI;rw[HL.out,HP.out];rfl
   have HF:=Ah am;obtain⟨l1,l2,l3,l4⟩:=Mu.1 hL;clear hL hP am;go_wp2_with fail;refine(Jm k c _).mono ?_;rintro e w2 ⟨rfl,hb⟩;rw[HL.out,Lq];have H2:=H.call hb;obtain⟨⟨p0,p1⟩,_⟩:=Hm (H2.b 1);clear a0 a1 hb H;go_wp2_with fail;refine(Ol x y _).mono ?_;rintro e w3 ⟨rfl,hb⟩;rw[HP.out,Lq];have H3:=H2.call hb;obtain⟨⟨a0,a1⟩,_⟩:=Hm (H3.b 0);obtain⟨⟨yn,yo⟩,_⟩:=Hm (H3.b 1);clear p0 p1 hb H2;have h4:k=1∨k=2∨k=3∨k=4:=Gv;rcases h4 with rfl|rfl|rfl|rfl
   ·obtain⟨A,hA⟩:=ey (Mp 1 x y);have GT:R=if A<2*c then-1 else if 2*c<A then 1 else 0:=by rw[HF.out];unfold Oy;rw[hA]
    have ST:=Ah GT;have HA:=Ah hA;have BV:=Bb2;have hfd:=dO;clear hA GT;go_upto_region 3 with fail
    go_region_held3 (λw'=>w'.cell? ⟨N,0,Ae⟩=Af (Aa Ac 1)/\w'.cell? ⟨N+1,0,Ae⟩=Af (Aa Ab x)/\w'.cell? ⟨N+1,1,Ae⟩=Af (Aa Ab y))
     (first|exact⟨a0,yn,yo⟩|go_keep)
     (first
      |(go_at_call 224;(with_reducible refine(Wr _).mono ?_);rintro e w4 ⟨p,q,rfl,da⟩;unfold gF fnV;have H3:=H3.call (Hl da);have a0:=Gw (Hl da) a0;have a1:=Gw (Hl da) a1;have yn:=Gw (Hl da) yn;have yo:=Gw (Hl da) yo)
      |(go_at_call 263;(with_reducible refine(wO x y _ HP.out).mono ?_);rintro e w5 ⟨rfl,db⟩;rw[HA.out];have H3:=H3.call db;have a0:=Gw db a0;have a1:=Gw db a1;have yn:=Gw db yn;have yo:=Gw db yo)
      |fail)
    go_wp2_with fail
    all_goals go_ret
    all_goals refine⟨Iw ?_,H3.below⟩
    all_goals rw[ST.out]
    ·rw[Hc Gv]
    ·rw[Ha Gv,Hc Gv]
    ·rw[Ha Gv,Ha Gv]
   ·obtain⟨A,hA⟩:=ey (Mp 2 x y);have GT:R=if A<2*c then-1 else if 2*c<A then 1 else 0:=by rw[HF.out];unfold Oy;rw[hA]
    have ST:=Ah GT;have HA:=Ah hA;have BV:=Bb3;have hfd:=dO;clear hA GT;go_upto_region 3 with fail
    go_region_held3 (λw'=>w'.cell? ⟨N,0,Ae⟩=Af (Aa Ac 2)/\w'.cell? ⟨N+1,0,Ae⟩=Af (Aa Ab x)/\w'.cell? ⟨N+1,1,Ae⟩=Af (Aa Ab y))
     (first|exact⟨a0,yn,yo⟩|go_keep)
     (first
      |(go_at_call 224;(with_reducible refine(Wr _).mono ?_);rintro e w4 ⟨p,q,rfl,da⟩;unfold gF fnV;have H3:=H3.call (Hl da);have a0:=Gw (Hl da) a0;have a1:=Gw (Hl da) a1;have yn:=Gw (Hl da) yn;have yo:=Gw (Hl da) yo)
      |(go_at_call 267;(with_reducible refine(wP x y _ HP.out).mono ?_);rintro e w5 ⟨rfl,db⟩;rw[HA.out];have H3:=H3.call db;have a0:=Gw db a0;have a1:=Gw db a1;have yn:=Gw db yn;have yo:=Gw db yo)
      |fail)
    go_wp2_with fail
    all_goals go_ret
    all_goals refine⟨Iw ?_,H3.below⟩
    all_goals rw[ST.out]
    ·rw[Hc Gv]
    ·rw[Ha Gv,Hc Gv]
    ·rw[Ha Gv,Ha Gv]
   ·obtain⟨A,hA⟩:=ey (Mp 3 x y);have GT:R=if A<2*c then-1 else if 2*c<A then 1 else 0:=by rw[HF.out];unfold Oy;rw[hA]
    have ST:=Ah GT;have HA:=Ah hA;have BV:=Bb4;have hfd:=dO;clear hA GT;go_upto_region 3 with fail
    go_region_held3 (λw'=>w'.cell? ⟨N,0,Ae⟩=Af (Aa Ac 3)/\w'.cell? ⟨N+1,0,Ae⟩=Af (Aa Ab x)/\w'.cell? ⟨N+1,1,Ae⟩=Af (Aa Ab y))
     (first|exact⟨a0,yn,yo⟩|go_keep)
     (first
      |(go_at_call 224;(with_reducible refine(Wr _).mono ?_);rintro e w4 ⟨p,q,rfl,da⟩;unfold gF fnV;have H3:=H3.call (Hl da);have a0:=Gw (Hl da) a0;have a1:=Gw (Hl da) a1;have yn:=Gw (Hl da) yn;have yo:=Gw (Hl da) yo)
      |(go_at_call 270;(with_reducible refine(wQ x y _ HP.out).mono ?_);rintro e w5 ⟨rfl,db⟩;rw[HA.out];have H3:=H3.call db;have a0:=Gw db a0;have a1:=Gw db a1;have yn:=Gw db yn;have yo:=Gw db yo)
      |fail)
    go_wp2_with fail
    all_goals go_ret
    all_goals refine⟨Iw ?_,H3.below⟩
    all_goals rw[ST.out]
    ·rw[Hc Gv]
    ·rw[Ha Gv,Hc Gv]
    ·rw[Ha Gv,Ha Gv]
   ·obtain⟨A,hA⟩:=ey (Mp 4 x y);have GT:R=if A<2*c then-1 else if 2*c<A then 1 else 0:=by rw[HF.out];unfold Oy;rw[hA]
    have ST:=Ah GT;have HA:=Ah hA;have BV:=Bb5;have hfd:=dO;clear hA GT;go_upto_region 3 with fail
    go_region_held3 (λw'=>w'.cell? ⟨N,0,Ae⟩=Af (Aa Ac 4)/\w'.cell? ⟨N+1,0,Ae⟩=Af (Aa Ab x)/\w'.cell? ⟨N+1,1,Ae⟩=Af (Aa Ab y))
     (first|exact⟨a0,yn,yo⟩|go_keep)
     (first
      |(go_at_call 224;(with_reducible refine(Wr _).mono ?_);rintro e w4 ⟨p,q,rfl,da⟩;unfold gF fnV;have H3:=H3.call (Hl da);have a0:=Gw (Hl da) a0;have a1:=Gw (Hl da) a1;have yn:=Gw (Hl da) yn;have yo:=Gw (Hl da) yo)
      |(go_at_call 273;(with_reducible refine(wR x y _ HP.out).mono ?_);rintro e w5 ⟨rfl,db⟩;rw[HA.out];have H3:=H3.call db;have a0:=Gw db a0;have a1:=Gw db a1;have yn:=Gw db yn;have yo:=Gw db yo)
      |fail)
    go_wp2_with fail
    all_goals go_ret
    all_goals refine⟨Iw ?_,H3.below⟩
    all_goals rw[ST.out]
    ·rw[Hc Gv]
    ·rw[Ha Gv,Hc Gv]
    ·rw[Ha Gv,Ha Gv]
def Cd7 (m:Int×Int×Int×Int):Ak:= .agg #[Aa Ab m.1,Aa Ab m.2.1,Aa Ab m.2.2.1,Aa Ab m.2.2.2]
structure Tn (w:Aj):Prop where
 lt:0<w.heap.size
 at':∀t,t<8->w.cell? ⟨0,t*4,Ae⟩=Af (Aa Ab (mat t).1)/\w.cell? ⟨0,t*4+1,Ae⟩=Af (Aa Ab (mat t).2.1)/\w.cell? ⟨0,t*4+2,Ae⟩=Af (Aa Ab (mat t).2.2.1)/\w.cell? ⟨0,t*4+3,Ae⟩=Af (Aa Ab (mat t).2.2.2)
def Tn.below (h:Tn w) (hb:Below w.heap.size w w'):Tn w':=
 ⟨Br h.lt hb.size,λt ht=>by
  obtain⟨h1,h2,h3,h4⟩:=h.at' t ht;exact⟨Gw hb h1,Gw hb h2,Gw hb h3,Gw hb h4⟩⟩
def Ra (n:Int) (w:Aj):Al Dp 172 #[n] w (Gz (.bool (!Xe n)) w):=by
 obtain⟨R,hR⟩:=ey ((!Xe n));rw[hR];have HR:=Ah hR;clear hR;go_in;go_wp2_with fail
 all_goals go_ret
 all_goals refine⟨Rq ?_,Ag _ _⟩
 all_goals rw[<-HR.out];unfold Xe
 all_goals first
  |(rw[Me (show¬-16384<=n by omega)];simp<;>omega)
  |(rw[Ld (show-16384<=n by omega)];by_cases h:n<=16384<;>simp[h]<;>omega)
def Cg6:((x+y).tmod 2=0)↔(x+y)%2=0:=by
 rw[Int.tmod_eq_emod];split<;>omega
def Bd8 (x:Int): -2<x.tmod 2/\x.tmod 2<2:=by
 rw[Int.tmod_eq_emod];split<;>omega
def Jn (t x y:Int) (w:Aj) (ht:0<=t/\t<=255):Al Dp 117 #[.agg #[Aa Ac t,x,y]] w (Gz (Aa Ab (ec (okM t x y) 1)) w):=by
 obtain⟨R,hR⟩:=ey (okM t x y);rw[hR];have HR:=Ah hR;obtain⟨t0,t1⟩:=ht;have H:=(Bx.start w).new #[Aa Ac t,x,y] 30 rfl;have c1:=Cb (t) Gv;clear hR;go_in;go_upto_region 1 with fail;generalize w.alloc _=W at H⊢;generalize w.heap.size=N at H⊢;obtain⟨⟨a0,a1,a2⟩,_⟩:=Hg (H.b 0);by_cases h8:t<8
 ·cases hx:Xe x
  ·have am:R=false:=by rw[<-HR.out];unfold okM;rw[hx];simp
   have HX:=Ah hx;clear hx;go_wp2_with fail;refine(Ra x _).mono ?_;rintro e w2 ⟨rfl,hb⟩;rw[HX.out];have H2:=H.call hb;clear a0 a1 a2 hb;go_wp2;go_ret;exact⟨Iw (by first|rfl|(rw[am];rfl)),H2.below⟩
  ·have HX:=Ah hx;obtain⟨x1,x2⟩: -16384<=x/\x<=16384:=by simpa[Xe]using hx
   clear hx
   cases hy:Xe y
   ·have am:R=false:=by rw[<-HR.out];unfold okM;rw[hy];simp
    have HY:=Ah hy;clear hy;go_wp2_with fail;refine(Ra x _).mono ?_;rintro e w2 ⟨rfl,hb⟩;rw[HX.out];have H2:=H.call hb;obtain⟨⟨b0,b1,b2⟩,_⟩:=Hg (H2.b 0);clear a0 a1 a2 hb;go_wp2_with fail;refine(Ra y _).mono ?_;rintro e w3 ⟨rfl,hb⟩;rw[HY.out];have H3:=H2.call hb;clear b0 b1 b2 hb;go_wp2;go_ret;exact⟨Iw (by first|rfl|(rw[am];rfl)),H3.below⟩
   ·have HY:=Ah hy;obtain⟨y1,y2⟩: -16384<=y/\y<=16384:=by simpa[Xe]using hy
    clear hy;have w1:=Cb (x+y) Gv;have ZK:Ab.wrap ((x+y).tmod 2)=(x+y).tmod 2:=Cb _ (oHx (Bd8 (x+y)));obtain⟨z,hz⟩:=ey ((x+y).tmod 2)
    have am:R=decide (z=0):=by
     rw[<-HR.out];unfold okM;rw[HX.out,HY.out,Ld h8,<-hz];simp only[Bool.true_and,Bool.and_true,Cg6]
    have HF:=Ah am;rw[hz]at ZK;clear am;go_wp2_with fail;refine(Ra x _).mono ?_;rintro e w2 ⟨rfl,hb⟩;rw[HX.out];have H2:=H.call hb;obtain⟨⟨b0,b1,b2⟩,_⟩:=Hg (H2.b 0);clear a0 a1 a2 hb;go_wp2_with fail;refine(Ra y _).mono ?_;rintro e w3 ⟨rfl,hb⟩;rw[HY.out];have H3:=H2.call hb;obtain⟨⟨d0,d1,d2⟩,_⟩:=Hg (H3.b 0);clear b0 b1 b2 hb;by_cases h0:z=0
    ·have lh:(z != 0)=false:=by simpa using h0
     go_wp2;go_ret;exact⟨Iw (by rw[HF.out,Ld h0];rfl),H3.below⟩
    ·have lh:(z != 0)=true:=by simpa using h0
     go_wp2;go_ret;exact⟨Iw (by rw[HF.out,Me h0];rfl),H3.below⟩
 ·have am:R=false:=by rw[<-HR.out];unfold okM;rw[Me h8];simp
  have h8':(8:Int)<=t:=Gv;go_wp2;go_ret;exact⟨Iw (by first|rfl|(rw[am];rfl)),H.below⟩
def Yu (w:Aj):Al Dp 63 #[] w (Gz mv0.v w):=by
 have H:=(Bx.start w).new #[Aa Ac 0,Aa Ab 0,Aa Ab 0] 30 rfl;go_in;go_wp2_with fail;refine Ai (v:=mv0.v) (by simp[results,Tryz.results63,go_sem,Mv.v,mv0]) rfl ⟨rfl,?_⟩
 repeat' (first|exact Ag _ _|refine Below.setCell ?_ Gy _|refine Below.alloc ?_ Gy _)
def Bz1 (a b c d x y:Int) (w:Aj) (h1:Ab.wrap (a*x)=a*x) (h2:Ab.wrap (b*y)=b*y) (h3:Ab.wrap (a*x+b*y)=a*x+b*y)
  (h4:Ab.wrap (c*x)=c*x) (h5:Ab.wrap (d*y)=d*y) (h6:Ab.wrap (c*x+d*y)=c*x+d*y):
  Al Dp 125 #[.agg #[a,b,c,d],x,y] w (Gz (.tuple #[Aa Ab (a*x+b*y),Aa Ab (c*x+d*y)]) w):=by
 go_in;go_wp2
 go_quiet (fail)
 go_wp2_with fail
 go_ret2
 exact⟨rfl,Ic ((Ag _ _).alloc (Am _) _) _⟩
def Tn.cells (h:Tn w):w.cell? ⟨0,0,Ae⟩=Af (Aa Ab 1)/\w.cell? ⟨0,1,Ae⟩=Af (Aa Ab 0)/\w.cell? ⟨0,2,Ae⟩=Af (Aa Ab 0)/\w.cell? ⟨0,3,Ae⟩=Af (Aa Ab 1)/\w.cell? ⟨0,4,Ae⟩=Af (Aa Ab 0)/\w.cell? ⟨0,5,Ae⟩=Af (Aa Ab (-1))/\w.cell? ⟨0,6,Ae⟩=Af (Aa Ab 1)/\w.cell? ⟨0,7,Ae⟩=Af (Aa Ab 0)/\w.cell? ⟨0,8,Ae⟩=Af (Aa Ab (-1))/\w.cell? ⟨0,9,Ae⟩=Af (Aa Ab 0)/\w.cell? ⟨0,10,Ae⟩=Af (Aa Ab 0)/\w.cell? ⟨0,11,Ae⟩=Af (Aa Ab (-1))/\w.cell? ⟨0,12,Ae⟩=Af (Aa Ab 0)/\w.cell? ⟨0,13,Ae⟩=Af (Aa Ab 1)/\w.cell? ⟨0,14,Ae⟩=Af (Aa Ab (-1))/\w.cell? ⟨0,15,Ae⟩=Af (Aa Ab 0)/\w.cell? ⟨0,16,Ae⟩=Af (Aa Ab (-1))/\w.cell? ⟨0,17,Ae⟩=Af (Aa Ab 0)/\w.cell? ⟨0,18,Ae⟩=Af (Aa Ab 0)/\w.cell? ⟨0,19,Ae⟩=Af (Aa Ab 1)/\w.cell? ⟨0,20,Ae⟩=Af (Aa Ab 0)/\w.cell? ⟨0,21,Ae⟩=Af (Aa Ab (-1))/\w.cell? ⟨0,22,Ae⟩=Af (Aa Ab (-1))/\w.cell? ⟨0,23,Ae⟩=Af (Aa Ab 0)/\w.cell? ⟨0,24,Ae⟩=Af (Aa Ab 1)/\w.cell? ⟨0,25,Ae⟩=Af (Aa Ab 0)/\w.cell? ⟨0,26,Ae⟩=Af (Aa Ab 0)/\w.cell? ⟨0,27,Ae⟩=Af (Aa Ab (-1))/\w.cell? ⟨0,28,Ae⟩=Af (Aa Ab 0)/\w.cell? ⟨0,29,Ae⟩=Af (Aa Ab 1)/\w.cell? ⟨0,30,Ae⟩=Af (Aa Ab 1)/\w.cell? ⟨0,31,Ae⟩=Af (Aa Ab 0):=by
 obtain⟨a0,a1,a2,a3⟩:=h.at' 0 He;obtain⟨b0,b1,b2,b3⟩:=h.at' 1 He;obtain⟨c0,c1,c2,c3⟩:=h.at' 2 He;obtain⟨d0,d1,d2,d3⟩:=h.at' 3 He;obtain⟨e0,e1,e2,e3⟩:=h.at' 4 He;obtain⟨f0,f1,f2,f3⟩:=h.at' 5 He;obtain⟨g0,g1,g2,g3⟩:=h.at' 6 He;obtain⟨i0,i1,i2,i3⟩:=h.at' 7 He;exact⟨a0,a1,a2,a3,b0,b1,b2,b3,c0,c1,c2,c3,d0,d1,d2,d3,e0,e1,e2,e3,f0,f1,f2,f3,g0,g1,g2,g3,i0,i1,i2,i3⟩
def Pz {a x B:Int} (ha: -1<=a/\a<=1) (hx: -B<=x/\x<=B): -B<=a*x/\a*x<=B:=by
 have:a= -1∨a=0∨a=1:=Gv;rcases this with rfl|rfl|rfl<;>omega
def vA (t:Nat):(-1<=(mat t).1/\(mat t).1<=1)/\(-1<=(mat t).2.1/\(mat t).2.1<=1)/\(-1<=(mat t).2.2.1/\(mat t).2.2.1<=1)/\(-1<=(mat t).2.2.2/\(mat t).2.2.2<=1):=by
 unfold mat;split<;>decide
def mD (t:Nat) (x y:Int) (w:Aj) (hx: -100000<=x/\x<=100000) (hy: -100000<=y/\y<=100000):
  Al Dp 125 #[.agg #[Aa Ab (mat t).1,Aa Ab (mat t).2.1,Aa Ab (mat t).2.2.1,Aa Ab (mat t).2.2.2],x,y] w (Gz (.tuple #[Aa Ab (Ii (mat t) x y).1,Aa Ab (Ii (mat t) x y).2]) w):=by
 obtain⟨h1,h2,h3,h4⟩:=vA t;have a1:=Pz h1 hx;have a2:=Pz h2 hy;have a3:=Pz h3 hx;have a4:=Pz h4 hy;exact Bz1 _ _ _ _ x y w (Cb _ Gv) (Cb _ Gv) (Cb _ Gv) (Cb _ Gv) (Cb _ Gv) (Cb _ Gv)
def fO (t:Nat) {x y B:Int} (hx: -B<=x/\x<=B) (hy: -B<=y/\y<=B):(-(2*B)<=(Ii (mat t) x y).1/\(Ii (mat t) x y).1<=2*B)/\(-(2*B)<=(Ii (mat t) x y).2/\(Ii (mat t) x y).2<=2*B):=by
 obtain⟨h1,h2,h3,h4⟩:=vA t;have a1:=Pz h1 hx;have a2:=Pz h2 hy;have a3:=Pz h3 hx;have a4:=Pz h4 hy;unfold Ii;dsimp only;omega
def Bd5 (s t:Nat) (w:Aj):
  Al Dp 128 #[.agg #[Aa Ab (mat s).1,Aa Ab (mat s).2.1,Aa Ab (mat s).2.2.1,Aa Ab (mat s).2.2.2],.agg #[Aa Ab (mat t).1,Aa Ab (mat t).2.1,Aa Ab (mat t).2.2.1,Aa Ab (mat t).2.2.2]] w
   (Gz (Cd7 (Iq (mat s) (mat t))) w):=by
 obtain⟨h1,h2,h3,h4⟩:=vA s;obtain⟨⟨a,b,c,d⟩,hs⟩:=ey (mat s);rw[hs]at h1 h2 h3 h4⊢;have O1:=λw=>mD t a c w (by dsimp only at h1;omega) (by dsimp only at h3;omega);have O2:=λw=>mD t b d w (by dsimp only at h2;omega) (by dsimp only at h4;omega);unfold Iq;dsimp only at h1 h2 h3 h4⊢;obtain⟨⟨p,r⟩,hp⟩:=ey (Ii (mat t) a c);obtain⟨⟨q,u⟩,hq⟩:=ey (Ii (mat t) b d);obtain⟨⟨e,f,g,i⟩,hm⟩:=ey (mat t);rw[hp,hm]at O1;rw[hq,hm]at O2;rw[hp,hq,hm];dsimp only at O1 O2⊢;have OO1:=Ah O1;have OO2:=Ah O2;have H:=(((Bx.start w).new #[a,b,c,d] 227 rfl).new #[e,f,g,i] 227 (N:=w.heap.size+1) Gy).new #[Aa Ab 0,Aa Ab 0,Aa Ab 0,Aa Ab 0] 227 (N:=w.heap.size+2) Gy;clear O1 O2 hp hq hm hs h1 h2 h3 h4;go_in;go_upto_region 1 with fail;generalize ((w.alloc _).alloc _).alloc _=W at H⊢;generalize w.heap.size=N at H⊢;obtain⟨⟨a0,a1,a2,a3⟩,_⟩:=Jh (H.b 0);obtain⟨⟨b0,b1,b2,b3⟩,_⟩:=Jh (H.b 1);go_wp2_with fail;refine(OO1.out _).mono ?_;rintro e' w2 ⟨rfl,hb⟩;have H2:=H.call hb;obtain⟨⟨c0,c1,c2,c3⟩,_⟩:=Jh (H2.b 0);obtain⟨⟨d0,d1,d2,d3⟩,_⟩:=Jh (H2.b 1);clear a0 a1 a2 a3 b0 b1 b2 b3 hb H;go_wp2_with fail;refine(OO2.out _).mono ?_;rintro e' w3 ⟨rfl,hb⟩;have H3:=H2.call hb;obtain⟨⟨e0,e1,e2,e3⟩,f0,f1,f2,f3⟩:=Jh (H3.b 2);clear c0 c1 c2 c3 d0 d1 d2 d3 hb H2;go_wp2_with fail;have H4:=(((H3.set 2 0 rfl (Aa Ab p)).set 2 1 rfl (Aa Ab q)).set 2 2 rfl (Aa Ab r)).set 2 3 rfl (Aa Ab u);exact Ai (Lv rfl rfl (H4.range 2 rfl) Tryz.underlying227 rfl Gx) rfl ⟨rfl,H4.below⟩
def Be3 (w:Aj):(Instr.index 228 (.agg #[Aa Ab 1,Aa Ab 0,Aa Ab 0,Aa Ab 1,Aa Ab 0,Aa Ab (-1),Aa Ab 1,Aa Ab 0,Aa Ab (-1),Aa Ab 0,Aa Ab 0,Aa Ab (-1),Aa Ab 0,Aa Ab 1,Aa Ab (-1),Aa Ab 0,Aa Ab (-1),Aa Ab 0,Aa Ab 0,Aa Ab 1,Aa Ab 0,Aa Ab (-1),Aa Ab (-1),Aa Ab 0,Aa Ab 1,Aa Ab 0,Aa Ab 0,Aa Ab (-1),Aa Ab 0,Aa Ab 1,Aa Ab 1,Aa Ab 0]) (Aa Ab 0)).run Dp w= .ok (.agg #[Aa Ab 1,Aa Ab 0,Aa Ab 0,Aa Ab 1]) w:=Gx
def Be4 (w:Aj):(Instr.index 228 (.agg #[Aa Ab 1,Aa Ab 0,Aa Ab 0,Aa Ab 1,Aa Ab 0,Aa Ab (-1),Aa Ab 1,Aa Ab 0,Aa Ab (-1),Aa Ab 0,Aa Ab 0,Aa Ab (-1),Aa Ab 0,Aa Ab 1,Aa Ab (-1),Aa Ab 0,Aa Ab (-1),Aa Ab 0,Aa Ab 0,Aa Ab 1,Aa Ab 0,Aa Ab (-1),Aa Ab (-1),Aa Ab 0,Aa Ab 1,Aa Ab 0,Aa Ab 0,Aa Ab (-1),Aa Ab 0,Aa Ab 1,Aa Ab 1,Aa Ab 0]) (Aa Ab 1)).run Dp w= .ok (.agg #[Aa Ab 0,Aa Ab (-1),Aa Ab 1,Aa Ab 0]) w:=Gx
def Be5 (w:Aj):(Instr.index 228 (.agg #[Aa Ab 1,Aa Ab 0,Aa Ab 0,Aa Ab 1,Aa Ab 0,Aa Ab (-1),Aa Ab 1,Aa Ab 0,Aa Ab (-1),Aa Ab 0,Aa Ab 0,Aa Ab (-1),Aa Ab 0,Aa Ab 1,Aa Ab (-1),Aa Ab 0,Aa Ab (-1),Aa Ab 0,Aa Ab 0,Aa Ab 1,Aa Ab 0,Aa Ab (-1),Aa Ab (-1),Aa Ab 0,Aa Ab 1,Aa Ab 0,Aa Ab 0,Aa Ab (-1),Aa Ab 0,Aa Ab 1,Aa Ab 1,Aa Ab 0]) (Aa Ab 2)).run Dp w= .ok (.agg #[Aa Ab (-1),Aa Ab 0,Aa Ab 0,Aa Ab (-1)]) w:=Gx
def Be6 (w:Aj):(Instr.index 228 (.agg #[Aa Ab 1,Aa Ab 0,Aa Ab 0,Aa Ab 1,Aa Ab 0,Aa Ab (-1),Aa Ab 1,Aa Ab 0,Aa Ab (-1),Aa Ab 0,Aa Ab 0,Aa Ab (-1),Aa Ab 0,Aa Ab 1,Aa Ab (-1),Aa Ab 0,Aa Ab (-1),Aa Ab 0,Aa Ab 0,Aa Ab 1,Aa Ab 0,Aa Ab (-1),Aa Ab (-1),Aa Ab 0,Aa Ab 1,Aa Ab 0,Aa Ab 0,Aa Ab (-1),Aa Ab 0,Aa Ab 1,Aa Ab 1,Aa Ab 0]) (Aa Ab 3)).run Dp w= .ok (.agg #[Aa Ab 0,Aa Ab 1,Aa Ab (-1),Aa Ab 0]) w:=Gx
def Be7 (w:Aj):(Instr.index 228 (.agg #[Aa Ab 1,Aa Ab 0,Aa Ab 0,Aa Ab 1,Aa Ab 0,Aa Ab (-1),Aa Ab 1,Aa Ab 0,Aa Ab (-1),Aa Ab 0,Aa Ab 0,Aa Ab (-1),Aa Ab 0,Aa Ab 1,Aa Ab (-1),Aa Ab 0,Aa Ab (-1),Aa Ab 0,Aa Ab 0,Aa Ab 1,Aa Ab 0,Aa Ab (-1),Aa Ab (-1),Aa Ab 0,Aa Ab 1,Aa Ab 0,Aa Ab 0,Aa Ab (-1),Aa Ab 0,Aa Ab 1,Aa Ab 1,Aa Ab 0]) (Aa Ab 4)).run Dp w= .ok (.agg #[Aa Ab (-1),Aa Ab 0,Aa Ab 0,Aa Ab 1]) w:=Gx
def Be8 (w:Aj):(Instr.index 228 (.agg #[Aa Ab 1,Aa Ab 0,Aa Ab 0,Aa Ab 1,Aa Ab 0,Aa Ab (-1),Aa Ab 1,Aa Ab 0,Aa Ab (-1),Aa Ab 0,Aa Ab 0,Aa Ab (-1),Aa Ab 0,Aa Ab 1,Aa Ab (-1),Aa Ab 0,Aa Ab (-1),Aa Ab 0,Aa Ab 0,Aa Ab 1,Aa Ab 0,Aa Ab (-1),Aa Ab (-1),Aa Ab 0,Aa Ab 1,Aa Ab 0,Aa Ab 0,Aa Ab (-1),Aa Ab 0,Aa Ab 1,Aa Ab 1,Aa Ab 0]) (Aa Ab 5)).run Dp w= .ok (.agg #[Aa Ab 0,Aa Ab (-1),Aa Ab (-1),Aa Ab 0]) w:=Gx
def Be9 (w:Aj):(Instr.index 228 (.agg #[Aa Ab 1,Aa Ab 0,Aa Ab 0,Aa Ab 1,Aa Ab 0,Aa Ab (-1),Aa Ab 1,Aa Ab 0,Aa Ab (-1),Aa Ab 0,Aa Ab 0,Aa Ab (-1),Aa Ab 0,Aa Ab 1,Aa Ab (-1),Aa Ab 0,Aa Ab (-1),Aa Ab 0,Aa Ab 0,Aa Ab 1,Aa Ab 0,Aa Ab (-1),Aa Ab (-1),Aa Ab 0,Aa Ab 1,Aa Ab 0,Aa Ab 0,Aa Ab (-1),Aa Ab 0,Aa Ab 1,Aa Ab 1,Aa Ab 0]) (Aa Ab 6)).run Dp w= .ok (.agg #[Aa Ab 1,Aa Ab 0,Aa Ab 0,Aa Ab (-1)]) w:=Gx
def Bf0 (w:Aj):(Instr.index 228 (.agg #[Aa Ab 1,Aa Ab 0,Aa Ab 0,Aa Ab 1,Aa Ab 0,Aa Ab (-1),Aa Ab 1,Aa Ab 0,Aa Ab (-1),Aa Ab 0,Aa Ab 0,Aa Ab (-1),Aa Ab 0,Aa Ab 1,Aa Ab (-1),Aa Ab 0,Aa Ab (-1),Aa Ab 0,Aa Ab 0,Aa Ab 1,Aa Ab 0,Aa Ab (-1),Aa Ab (-1),Aa Ab 0,Aa Ab 1,Aa Ab 0,Aa Ab 0,Aa Ab (-1),Aa Ab 0,Aa Ab 1,Aa Ab 1,Aa Ab 0]) (Aa Ab 7)).run Dp w= .ok (.agg #[Aa Ab 0,Aa Ab 1,Aa Ab 1,Aa Ab 0]) w:=Gx
def gS:List Ak:=[Aa Ab 1,Aa Ab 0,Aa Ab 0,Aa Ab 1,Aa Ab 0,Aa Ab (-1),Aa Ab 1,Aa Ab 0,Aa Ab (-1),Aa Ab 0,Aa Ab 0,Aa Ab (-1),Aa Ab 0,Aa Ab 1,Aa Ab (-1),Aa Ab 0,Aa Ab (-1),Aa Ab 0,Aa Ab 0,Aa Ab 1,Aa Ab 0,Aa Ab (-1),Aa Ab (-1),Aa Ab 0,Aa Ab 1,Aa Ab 0,Aa Ab 0,Aa Ab (-1),Aa Ab 0,Aa Ab 1,Aa Ab 1,Aa Ab 0]
def xP:Ak:= .agg gS.toArray
def Tn.range (h:Tn w):w.rangeAt 0 0 gS:=by
 intro j v hj;obtain⟨h00,h01,h02,h03,CU,h11,h12,h13,h20,h21,h22,h23,h30,h31,h32,h33,h40,LF,h42,h43,h50,h51,h52,h53,h60,h61,LG,h63,h70,h71,h72,h73⟩:=h.cells;have hl:j<32:=(Ax.1 hj).1;rw[Bu];have:j=0∨j=1∨j=2∨j=3∨j=4∨j=5∨j=6∨j=7∨j=8∨j=9∨j=10∨j=11∨j=12∨j=13∨j=14∨j=15∨j=16∨j=17∨j=18∨j=19∨j=20∨j=21∨j=22∨j=23∨j=24∨j=25∨j=26∨j=27∨j=28∨j=29∨j=30∨j=31:=Gv;rcases this with rfl|rfl|rfl|rfl|rfl|rfl|rfl|rfl|rfl|rfl|rfl|rfl|rfl|rfl|rfl|rfl|rfl|rfl|rfl|rfl|rfl|rfl|rfl|rfl|rfl|rfl|rfl|rfl|rfl|rfl|rfl|rfl
 all_goals (simp only[gS,Cx,List.getElem?_cons_zero,Option.some.injEq]at hj;subst hj;assumption)
def Bq4 (k:Nat) (hk:k<8) (w:Aj):(Instr.index 228 xP (Aa Ab k)).run Dp w= .ok (.agg #[Aa Ab (mat k).1,Aa Ab (mat k).2.1,Aa Ab (mat k).2.2.1,Aa Ab (mat k).2.2.2]) w:=by
 have:k=0∨k=1∨k=2∨k=3∨k=4∨k=5∨k=6∨k=7:=Gv;rcases this with rfl|rfl|rfl|rfl|rfl|rfl|rfl|rfl
 ·exact Be3 w
 ·exact Be4 w
 ·exact Be5 w
 ·exact Be6 w
 ·exact Be7 w
 ·exact Be8 w
 ·exact Be9 w
 ·exact Bf0 w
def Bm3 {k r:Nat} (hk:k<8) (hr:r<8) (h:(mat k).1=(mat r).1/\(mat k).2.1=(mat r).2.1/\(mat k).2.2.1=(mat r).2.2.1/\(mat k).2.2.2=(mat r).2.2.2):k=r:=by
 have:∀k<8,∀r<8,((mat k).1=(mat r).1/\(mat k).2.1=(mat r).2.1/\(mat k).2.2.1=(mat r).2.2.1/\(mat k).2.2.2=(mat r).2.2.2)->k=r:=He;exact this k hk r hr h
def vO (r:Nat) (hr:r<8) (w:Aj) (hT:Tn w):Al Dp 127 #[.agg #[Aa Ab (mat r).1,Aa Ab (mat r).2.1,Aa Ab (mat r).2.2.1,Aa Ab (mat r).2.2.2]] w (Gz (Aa Ac r) w):=by
 obtain⟨⟨a,b,c,d⟩,hm⟩:=ey (mat r);have HI:=Ah λk hk=>Bm3 (k:=k) hk hr;rw[hm]at HI⊢;dsimp only at HI⊢;have H:=(Bx.start w).new #[a,b,c,d] 227 rfl;have HT:=Ah (hT.below H.below);have HM:=Ah hm;clear hm;go_in;go_upto_region 1 with fail;generalize w.alloc _=W at H HT⊢;generalize w.heap.size=N at H⊢;refine wp_region_list ?_;refine wpList_load_mid rfl 228 (.global 0) rfl 0 0 rfl gS _ HT.out.range Tryz.underlying228 rfl Gx ?_;rw[show Value.agg gS.toArray=xP from rfl];obtain⟨TV,hTV⟩:=ey xP;have HX:=λk hk w=>Bq4 k hk w;rw[hTV]at HX;rw[hTV];have PY:=Ah HX;clear hTV HX;go_upto_region 2 with fail
 go_loopw [6] (λi wr=>∃k:Nat,k<=r/\i= Aa Ab k/\Bx w [(N,#[a,b,c,d],227)] wr) (λi _=>r-(intOf i).toNat)
 case atStart=>exact⟨0,Gv,rfl,H⟩
 obtain⟨k,hk,rfl,Hr⟩:=hrel;obtain⟨⟨a0,a1,a2,a3⟩,_⟩:=Jh (Hr.b 0);have ac:=Hr.lt 0 rfl;have BV:=PY.out k Gv;have hi:=HI.out k Gv;have q1:(k:Int)<8:=Gv;obtain⟨⟨a',b',c',d'⟩,P3⟩:=ey (mat k);rw[P3]at hi BV;dsimp only at hi BV;have GE:=Ah hi;have JA:=Ah P3;clear hi P3;by_cases O4:k=r
 ·subst O4
  obtain⟨rfl,rfl,rfl,rfl⟩:a'=a/\b'=b/\c'=c/\d'=d:=by
   have h1:=HM.out;rw[JA.out]at h1;simpa using h1
  have w1:IntKind.u8.wrap (k:Int)=k:=IntWalk.u8_in _ Gv;go_wp2;go_ret;exact⟨rfl,(Hr.call ((Ag _ _).alloc (Am _) _)).below⟩
 ·have hne:¬(a'=a/\b'=b/\c'=c/\d'=d):=λh=>O4 (GE.out h);have hy:=λo=>Hr.call ((Ag _ _).alloc (Am _) o);go_wp2_with fail
  all_goals first
   |exact⟨⟨k+1,Gv,by go_num,hy _⟩,by simp[intOf];omega⟩
   |exact absurd ⟨rfl,rfl,rfl,rfl⟩ hne
def nxt:Nat->Nat->Int×Int×Int
 |0,0=>(0,-1,2)|0,1=>(0,0,1)|0,_=>(0,0,3)
 |1,0=>(1,0,3)|1,1=>(0,0,0)|1,_=>(0,0,2)
 |2,0=>(0,1,0)|2,1=>(0,0,3)|2,_=>(0,0,1)
 |_,0=>(-1,0,1)|_,1=>(0,0,2)|_,_=>(0,0,0)
def fS (q e:Nat): -1<=(nxt q e).1/\(nxt q e).1<=1/\-1<=(nxt q e).2.1/\(nxt q e).2.1<=1/\0<=(nxt q e).2.2/\(nxt q e).2.2<=3:=by
 unfold nxt
 split<;>decide
structure Qt (w:Aj):Prop where
 lt:1<w.heap.size
 at':∀q e,q<4->e<3->w.cell? ⟨1,q*17+4+e*3,Ae⟩=Af (Aa Ab (nxt q e).1)/\w.cell? ⟨1,q*17+4+e*3+1,Ae⟩=Af (Aa Ab (nxt q e).2.1)/\w.cell? ⟨1,q*17+4+e*3+2,Ae⟩=Af (Aa Ac (nxt q e).2.2)
def Qt.below (h:Qt w) (hb:Below w.heap.size w w'):Qt w':=
 ⟨Br h.lt hb.size,λq e hq he=>by
  obtain⟨h1,h2,h3⟩:=h.at' q e hq he;exact⟨Gw hb h1,Gw hb h2,Gw hb h3⟩⟩
def nbr (x y q e:Int):Int×Int×Int×Int:=
 if okC x y q=false∨2<e then (0,0,0,1)
 else if okC (x+(nxt q.toNat e.toNat).1) (y+(nxt q.toNat e.toNat).2.1) (nxt q.toNat e.toNat).2.2 then (x+(nxt q.toNat e.toNat).1,y+(nxt q.toNat e.toNat).2.1,(nxt q.toNat e.toNat).2.2,0)
 else (0,0,0,3)
def Nh (c:Int×Int×Int×Int):Ak:= .tuple #[.agg #[Aa Ab c.1,Aa Ab c.2.1,Aa Ac c.2.2.1],Aa Ab c.2.2.2]
def Sg (x y q e:Int) (w:Aj) (hq:0<=q) (he:0<=e) (hQ:Qt w):
  Al Dp 137 #[.agg #[x,y,Aa Ac q],Aa Ac e] w (Gz (Nh (nbr x y q e)) w):=by
 cases hc:okC x y q
 ·have hn:nbr x y q e=(0,0,0,1):=by unfold nbr;rw[Hc (.inl hc)]
  rw[hn];have HC:=Ah hc;clear hc hn;go_in;go_wp2_with fail;refine(Jg x y q _).mono ?_;rintro e' w2 ⟨rfl,aj⟩;rw[HC.out,Qm];obtain⟨n1,n2⟩:=iD w (.cells #[x,y,Aa Ac q] 90) (.cells #[Aa Ab 0,Aa Ab 0,Aa Ac 0] 90);obtain⟨⟨r0,r1,r2⟩,z0,z1,z2⟩:=Hg (kept aj n2 Gy);have de:Below w.heap.size w w2:=(((Ag _ _).alloc (Am _) _).alloc Gy _).trans (aj.mono Hv);clear n1 n2;go_wp2_with fail;refine Ai (v:=Nh (0,0,0,1)) (by simp[results,Tryz.results137,go_sem,r0,r1,r2,Nh]) rfl ⟨rfl,?_⟩;exact((de.setCell Gy _).setCell Gy _).setCell Gy _
 ·by_cases yd:2<e
  ·have hn:nbr x y q e=(0,0,0,1):=by unfold nbr;rw[Hc (.inr yd)]
   rw[hn];have HC:=Ah hc;clear hc hn;go_in;go_wp2_with fail;refine(Jg x y q _).mono ?_;rintro e' w2 ⟨rfl,aj⟩;rw[HC.out,Lq];obtain⟨n1,n2⟩:=iD w (.cells #[x,y,Aa Ac q] 90) (.cells #[Aa Ab 0,Aa Ab 0,Aa Ac 0] 90);obtain⟨⟨r0,r1,r2⟩,z0,z1,z2⟩:=Hg (kept aj n2 Gy);have de:Below w.heap.size w w2:=(((Ag _ _).alloc (Am _) _).alloc Gy _).trans (aj.mono Hv);clear n1 n2;go_wp2_with fail;refine Ai (v:=Nh (0,0,0,1)) (by simp[results,Tryz.results137,go_sem,r0,r1,r2,Nh]) rfl ⟨rfl,?_⟩;exact((de.setCell Gy _).setCell Gy _).setCell Gy _
  ·obtain⟨qn,rfl⟩:=Int.eq_ofNat_of_zero_le hq;obtain⟨en,rfl⟩:=Int.eq_ofNat_of_zero_le he;have gv:=Jq.1 hc;have hqn:qn<4:=Gv;have tl:en<3:=Gv;have eh:=fS qn en;obtain⟨nx,fp⟩:=ey ((nxt qn en).1);obtain⟨ny,hny⟩:=ey ((nxt qn en).2.1);obtain⟨nq,YG⟩:=ey ((nxt qn en).2.2)
   have hn:nbr x y qn en=if okC (x+nx) (y+ny) nq then (x+nx,y+ny,nq,0)else (0,0,0,3):=by
    unfold nbr;rw[Ha (by rw[hc];simp;omega),Ev,Ev,fp,hny,YG]
   obtain⟨R,hR⟩:=ey (nbr x y qn en);rw[hR];have HR:=Ah (hR.symm.trans hn);rw[fp,hny,YG]at eh;have HC:=Ah hc;have qm:=Ah fp;have HNY:=Ah hny;have HNQ:=Ah YG;have q1:(qn:Int)<4:=Gv;have q2:(en:Int)<3:=Gv;have q3:¬(2:Int)<(en:Int):=Gv;clear hc hn hR fp hny YG yd;go_in;go_wp2_with fail;refine(Jg x y qn _).mono ?_;rintro e' w2 ⟨rfl,aj⟩;rw[HC.out,Lq];obtain⟨n1,n2⟩:=iD w (.cells #[x,y,Aa Ac qn] 90) (.cells #[Aa Ab 0,Aa Ab 0,Aa Ac 0] 90);obtain⟨⟨r0,r1,r2⟩,z0,z1,z2⟩:=Hg (kept aj n2 Gy);obtain⟨⟨s0,s1,s2⟩,_⟩:=Hg (kept aj n1 Hv);have de:Below w.heap.size w w2:=(((Ag _ _).alloc (Am _) _).alloc Gy _).trans (aj.mono Hv);obtain⟨t0,t1,t2⟩:=(hQ.below de).at' qn en hqn tl;rw[qm.out]at t0;rw[HNY.out]at t1;rw[HNQ.out]at t2;have gg:=aj.size;simp only[World.size_alloc]at gg;have zq:1<w2.heap.size:=(hQ.below de).lt;have hwx: -4097<=nx+x/\nx+x<=4097:=Gv;have hwy: -4097<=ny+y/\ny+y<=4097:=Gv;obtain⟨cx,ua⟩:=ez (x+nx);obtain⟨cy,DC⟩:=ez (y+ny);have w1:Ab.wrap (nx+x)=cx:=by rw[Cb _ Gv];omega
   have ZK:Ab.wrap (ny+y)=cy:=by rw[Cb _ Gv];omega
   have ux:=Ah ua;have HCY:=Ah DC;have JW:w.heap.size<w2.heap.size:=Gv;have fw:w.heap.size+1<w2.heap.size:=Gv;have WG:=Ah (kept aj n2 Gy);clear n1 n2 ua DC;go_wp2
   go_region
   go_wp2_with fail;refine(Jg cx cy nq _).mono ?_;rintro e' w3 ⟨rfl,jw⟩;have bh:=Hl jw;have m2:w3.heap[w.heap.size+1]? =Af (.cells #[Aa Ab 0,Aa Ab 0,Aa Ac 0] 90 (0,0)):=kept bh ((Eh _ _ _ fw).trans WG.out) Hv;have m3:w3.heap[w2.heap.size]? =Af (.cells #[cx,cy,Aa Ac nq] 90 (0,0)):=kept bh (Ca w2 _) Gy;have hbw3:Below w.heap.size w w3:=(de.alloc de.size _).trans (bh.mono Hv);have OB:w.heap.size+1<w3.heap.size:=(Au.1 m2).1;obtain⟨⟨a0,a1,a2⟩,y0,y1,y2⟩:=Hg m2;obtain⟨⟨b0,b1,b2⟩,_⟩:=Hg m3;clear r0 r1 r2 z0 z1 z2 s0 s1 s2 t0 t1 t2 m2 m3 aj bh jw
   cases hk:okC cx cy nq
   ·have HK:=Ah hk;rw[Qm];clear hk;go_wp2_with fail;refine Ai (v:=Nh (0,0,0,3)) (by simp[results,Tryz.results137,go_sem,a0,a1,a2,Nh]) rfl ⟨?_,?_⟩
    ·rw[HR.out,<-ux.out,<-HCY.out,HK.out];rfl
    ·exact((hbw3.setCell Gy _).setCell Gy _).setCell Gy _
   ·have HK:=Ah hk;rw[Lq];clear hk;go_wp2_with fail;refine Ai (v:=Nh (cx,cy,nq,0)) (by simp[results,Tryz.results137,go_sem,a0,a1,a2,Nh]) rfl ⟨?_,?_⟩
    ·rw[HR.out,<-ux.out,<-HCY.out,HK.out];rfl
    ·exact((hbw3.setCell Gy _).setCell Gy _).setCell Gy _
def Sz (a b i:Int):Bool:=decide (0<=i)&&decide (i<4*a*b)
def Oq {a b i:Int}:Sz a b i=true↔0<=i/\i<4*a*b:=by unfold Sz;simp
def Mg {a b:Int} (h:okS a b=true):1<=a*b/\a*b<=256/\1<=a/\a<=256/\1<=b/\b<=256:=by
 obtain⟨h1,h2,h3,h4,h5⟩:=dL.1 h;refine⟨?_,h5,h1,h3,h2,h4⟩;have:=Int.mul_le_mul h1 h2 Gv Gv;omega
def Bj5 (a b i:Int) (w:Aj) (hs:okS a b=true):
  Al Dp 177 #[.agg #[a,b],i] w (Gz (.bool (Sz a b i)) w):=by
 obtain⟨m1,m2,m3,m4,m5,m6⟩:=Mg hs;obtain⟨m,hm⟩:=ey (4*a*b)
 have QV:4<=m/\m<=1024:=by
  have:4*a*b=4*(a*b):=Cw _ _ _;omega
 have HM:=Ah hm;obtain⟨R,hR⟩:=ey (Sz a b i);rw[hR];have HR:=Ah hR;obtain⟨ci,aj⟩:=QV;clear hs hR;go_in;go_wp2_with fail
 all_goals go_ret
 all_goals refine⟨?_,(Ag _ _).alloc (Am _) _⟩
 ·rw[<-HR.out];exact Rq (by unfold Sz;rw[Ld (show 0<=i by omega),HM.out,Bool.true_and])
 ·rw[<-HR.out];exact Rq (by unfold Sz;rw[Me (show¬0<=i by omega),Bool.false_and])
def nX (a b i:Int) (w:Aj) (hs:okS a b=true) (hi:Sz a b i=true):
  Al Dp 178 #[.agg #[a,b],i] w (Gz (.agg #[Aa Ab (i/4%a),Aa Ab (i/4/a),Aa Ac (i%4)]) w):=by
 obtain⟨m1,m2,m3,m4,m5,m6⟩:=Mg hs;obtain⟨i1,i2⟩:=Oq.1 hi;have i3:i<=1024:=by have:4*a*b=4*(a*b):=Cw _ _ _;omega
 have d1:0<=i/4:=Gv;have d2:i/4<=256:=Gv;have d3:=Int.emod_nonneg (i/4) (show a≠0 by omega);have d4:=Int.emod_lt_of_pos (i/4) (show 0<a by omega);have d5:0<=i/4/a:=Int.ediv_nonneg d1 Gv;have d6:i/4/a<=256:=Int.le_trans (Int.ediv_le_self _ d1) d2;have e1:(a==0)=false:=Hv;have e2:(i/4).tmod a=i/4%a:=Int.tmod_eq_emod_of_nonneg d1;have e3:(i/4).tdiv a=i/4/a:=Gi d1;have e4:i.tdiv 4=i/4:=Gi i1;have e5:i.tmod 4=i%4:=Int.tmod_eq_emod_of_nonneg i1;have e6:=Cb (i/4) Gv;have e7:=Cb (i/4%a) Gv;have e8:=Cb (i/4/a) Gv;have e9:=Cb (i%4) Gv;have XB:IntKind.u8.wrap (i%4)=i%4:=IntWalk.u8_in _ Gv;clear hs hi i2 d1 d2 d3 d4 d5 d6;obtain⟨n1,n2⟩:=iD w (.cells #[a,b] 25) (.cells #[Aa Ab 0,Aa Ab 0,Aa Ac 0] 90);go_in;go_wp2
 go_region
 go_wp2_with fail;refine Ai (v:= .agg #[Aa Ab (i/4%a),Aa Ab (i/4/a),Aa Ac (i%4)]) (by simp[results,Tryz.results178,go_sem]) rfl ⟨rfl,?_⟩
 repeat' (first|exact Ag _ _|refine Below.drew ?_|refine Below.setCell ?_ Gy _|refine Below.alloc ?_ Gy _)
def Uo (a b i:Int):Int×Int×Int×Int:=if Sz a b i then (i/4%a,i/4/a,i%4,0)else (0,0,0,7)
def Sj (a b i:Int) (w:Aj) (hs:okS a b=true):
  Al Dp 136 #[.agg #[a,b],i] w (Gz (Nh (Uo a b i)) w):=by
 obtain⟨R,hR⟩:=ey (Uo a b i);rw[hR];have HR:=Ah hR;have HS:=Ah hs;obtain⟨n1,n2⟩:=iD w (.cells #[a,b] 25) (.cells #[Aa Ab 0,Aa Ab 0,Aa Ac 0] 90);have ci:Below w.heap.size w ((w.alloc (.cells #[a,b] 25)).alloc (.cells #[Aa Ab 0,Aa Ab 0,Aa Ac 0] 90)):=((Ag _ _).alloc (Am _) _).alloc Gy _;have ap:w.heap.size+1<((w.alloc (.cells #[a,b] 25)).alloc (.cells #[Aa Ab 0,Aa Ab 0,Aa Ac 0] 90)).heap.size:=Gy;clear hR hs;go_in;go_upto_region 1 with fail;generalize (w.alloc _).alloc _=W at n1 n2 ci ap⊢;obtain⟨N,hN⟩:=ez w.heap.size;rw[<-hN]at n1 n2 ap⊢;have ct:=Ah hN;have N1:=Ah n1;have N2:=Ah n2;obtain⟨⟨x0,x1⟩,_⟩:=Hm n1;clear n1 n2 hN;go_wp2_with fail;refine(Js a b _).mono ?_;rintro e w2 ⟨rfl,aj⟩;rw[HS.out,Lq];have dy:Below w.heap.size w w2:=Up ci aj;have M1:=Ah (kept aj N1.out Gv);have M2:=Ah (kept aj N2.out ap);obtain⟨⟨y0,y1⟩,_⟩:=Hm M1.out;have bw:N+1<w2.heap.size:=Br ap aj.size;clear x0 x1 aj N1 N2;go_wp2_with fail;refine(Bj5 a b i _ HS.out).mono ?_;rintro e w3 ⟨rfl,bh⟩;have jw:Below w.heap.size w w3:=Up dy bh;have P1:=Ah (kept bh M1.out Gv);have P2:=Ah (kept bh M2.out bw);obtain⟨⟨v0,v1⟩,_⟩:=Hm P1.out;obtain⟨⟨r0,r1,r2⟩,z0,z1,z2⟩:=Hg P2.out;have qi:N+1<w3.heap.size:=Br bw bh.size;clear y0 y1 bh M1 M2
 cases hi:Sz a b i
 ·have HI:=Ah hi;clear hi;go_wp2_with fail;refine Ai (v:=Nh (0,0,0,7)) (by simp[results,Tryz.results136,go_sem,r0,r1,r2,Nh]) rfl ⟨?_,?_⟩
  ·rw[<-HR.out];unfold Uo;rw[HI.out];rfl
  ·have h9:=ct.out;exact((jw.setCell Hv _).setCell Hv _).setCell Hv _
 ·have HI:=Ah hi;clear hi;go_wp2_with fail;refine(nX a b i _ HS.out HI.out).mono ?_;rintro e w4 ⟨rfl,da⟩;have EU:Below w.heap.size w w4:=Up jw da;obtain⟨⟨s0,s1,s2⟩,y0,y1,y2⟩:=Hg (kept da P2.out qi);have ZD:N+1<w4.heap.size:=Br qi da.size;clear v0 v1 r0 r1 r2 z0 z1 z2 da;go_wp2_with fail;refine Ai (v:=Nh (i/4%a,i/4/a,i%4,0)) (by simp[results,Tryz.results136,go_sem,s0,s1,s2,Nh]) rfl ⟨?_,?_⟩
  ·rw[<-HR.out];unfold Uo;rw[HI.out];rfl
  ·have h9:=ct.out;exact((EU.setCell Hv _).setCell Hv _).setCell Hv _
def inS (a b x y q:Int):Bool:=okC x y q&&decide (0<=x)&&decide (x<a)&&decide (0<=y)&&decide (y<b)
def Yy {a b x y q:Int}:inS a b x y q=true↔okC x y q=true/\0<=x/\x<a/\0<=y/\y<b:=by
 unfold inS;simp only[Em,Li,and_assoc]
def Au3 {a b x y q:Int} (h:¬(okC x y q=true/\0<=x/\x<a/\0<=y/\y<b)):inS a b x y q=false:=by
 rw[<-Ep,Yy];exact h
def idI (a b x y q:Int):Int×Int:=if inS a b x y q then (4*(y*a+x)+q,0)else (0,7)
def fD (r:Int×Int):Ak:= .tuple #[Aa Ab r.1,Aa Ab r.2]
def Br8 {a b x y:Int} (hs:okS a b=true) (hx:0<=x/\x<a) (hy:0<=y/\y<b):0<=y*a/\y*a+x<a*b/\a*b<=256:=by
 obtain⟨m1,m2,m3,m4,m5,m6⟩:=Mg hs;refine⟨Int.mul_nonneg hy.1 Gv,?_,m2⟩;have h1:(y+1)*a<=b*a:=Int.mul_le_mul_of_nonneg_right Gv Gv;rw[Int.add_mul,Int.one_mul,Int.mul_comm b a]at h1;omega
def Bx0 (a b x y q:Int) (w:Aj) (hs:okS a b=true) (hq:0<=q/\q<=255):
  Al Dp 138 #[.agg #[a,b],.agg #[x,y,Aa Ac q]] w (Gz (fD (idI a b x y q)) w):=by
 obtain⟨R,hR⟩:=ey (idI a b x y q);rw[hR];have HR:=Ah hR;have HS:=Ah hs;have dh:=λhx hy=>Br8 (a:=a) (b:=b) (x:=x) (y:=y) hs hx hy;have fa:=Ah dh;obtain⟨n1,n2⟩:=iD w (.cells #[a,b] 25) (.cells #[x,y,Aa Ac q] 90);have ci:Below w.heap.size w ((w.alloc (.cells #[a,b] 25)).alloc (.cells #[x,y,Aa Ac q] 90)):=((Ag _ _).alloc (Am _) _).alloc Gy _;have ap:w.heap.size+1<((w.alloc (.cells #[a,b] 25)).alloc (.cells #[x,y,Aa Ac q] 90)).heap.size:=Gy;clear hR hs dh;go_in;go_upto_region 1 with fail;generalize (w.alloc _).alloc _=W at n1 n2 ci ap⊢;generalize w.heap.size=N at n1 n2 ap⊢;have N1:=Ah n1;have N2:=Ah n2;obtain⟨⟨x0,x1⟩,_⟩:=Hm n1;clear n1 n2;go_wp2_with fail;refine(Js a b _).mono ?_;rintro e w2 ⟨rfl,aj⟩;rw[HS.out,Lq];have dy:Below w.heap.size w w2:=Up ci aj;have M1:=Ah (kept aj N1.out Gv);have M2:=Ah (kept aj N2.out ap);obtain⟨⟨y0,y1,y2⟩,_⟩:=Hg M2.out;have bw:N+1<w2.heap.size:=Br ap aj.size;clear x0 x1 aj N1 N2;go_wp2_with fail;refine(Jg x y q _).mono ?_;rintro e w3 ⟨rfl,bh⟩;have jw:Below w.heap.size w w3:=Up dy bh;obtain⟨⟨v0,v1⟩,_⟩:=Hm (kept bh M1.out Gv);obtain⟨⟨r0,r1,r2⟩,_⟩:=Hg (kept bh M2.out bw);clear y0 y1 y2 bh M1 M2
 cases hc:okC x y q
 ·have HC:=Ah hc;rw[Qm];clear hc;go_wp2_with fail
  go_ret2
  refine⟨?_,jw⟩;rw[<-HR.out];unfold idI;rw[Au3 (λh=>by rw[HC.out]at h;cases h.1)];rfl
 ·have HC:=Ah hc;rw[Lq];clear hc;by_cases fy:(0<=x/\x<a)/\(0<=y/\y<b)
  ·obtain⟨⟨h1,h2⟩,h3,h4⟩:=fy;obtain⟨k1,k2,k3⟩:=fa.out ⟨h1,h2⟩ ⟨h3,h4⟩;have k4:=Cb (q) Gv;have hma:=dL.1 HS.out;obtain⟨p,hp⟩:=ey (y*a);rw[hp]at k1 k2;have HP:=Ah hp;clear hma;go_wp2_with fail
   go_ret2
   refine⟨?_,jw⟩;rw[<-HR.out];unfold idI;rw[Yy.2 ⟨HC.out,h1,h2,h3,h4⟩,<-HP.out];rfl
  ·have qg:=Au3 (a:=a) (b:=b) (x:=x) (y:=y) (q:=q) (λh=>fy ⟨⟨h.2.1,h.2.2.1⟩,h.2.2.2.1,h.2.2.2.2⟩);have GT:R=(0,7):=by rw[<-HR.out];unfold idI;rw[qg];rfl
   have ST:=Ah GT;have si:=Ah fy;clear qg GT fy;go_wp2_with fail
   all_goals go_ret2
   all_goals first|exact⟨by rw[ST.out];rfl,jw⟩|exact absurd Gv si.out
def nbI (a b i e:Int):Int×Int:=
 if Sz a b i=false then (0,7)
 else if(nbr (i/4%a) (i/4/a) (i%4) e).2.2.2=0 then idI a b (nbr (i/4%a) (i/4/a) (i%4) e).1 (nbr (i/4%a) (i/4/a) (i%4) e).2.1 (nbr (i/4%a) (i/4/a) (i%4) e).2.2.1
 else (0,1)
def vJ (x y q e:Int):0<=(nbr x y q e).2.2.1/\(nbr x y q e).2.2.1<=3:=by
 have h:=fS q.toNat e.toNat;unfold nbr
 split
 ·exact⟨He,He⟩
 ·split
  ·exact⟨h.2.2.2.2.1,h.2.2.2.2.2⟩
  ·exact⟨He,He⟩
def Jj (a b i e:Int) (w:Aj) (hs:okS a b=true) (he:0<=e) (hQ:Qt w):
  Al Dp 77 #[.agg #[a,b],i,Aa Ac e] w (Gz (fD (nbI a b i e)) w):=by
 obtain⟨R,hR⟩:=ey (nbI a b i e);rw[hR];have HR:=Ah hR;have HS:=Ah hs;have fk:(w.alloc (.cells #[a,b] 25)).heap[w.heap.size]? =Af (.cells #[a,b] 25 (0,0)):=Ca w _;have ci:Below w.heap.size w (w.alloc (.cells #[a,b] 25)):=(Ag _ _).alloc (Am _) _;have ap:w.heap.size<(w.alloc (.cells #[a,b] 25)).heap.size:=Gy;clear hR hs;go_in;go_upto_region 1 with fail;generalize w.alloc _=W at fk ci ap⊢;generalize w.heap.size=N at fk ap⊢;have N1:=Ah fk;obtain⟨⟨x0,x1⟩,_⟩:=Hm fk;clear fk;go_wp2_with fail;refine(Sj a b i _ HS.out).mono ?_;rintro e' w2 ⟨rfl,aj⟩;have dy:Below w.heap.size w w2:=Up ci aj;have M1:=Ah (kept aj N1.out ap);have bw:N<w2.heap.size:=Br ap aj.size;have jl:=dy.size;clear x0 x1 aj N1
 cases hi:Sz a b i
 ·have hc:Uo a b i=(0,0,0,7):=by unfold Uo;rw[hi];rfl
  have hr:R=(0,7):=by rw[<-HR.out];unfold nbI;rw[Hc hi]
  rw[hc];unfold Nh;have jn:=Ah hr;clear hc hr hi;dsimp only;go_wp2_with fail
  go_ret2
  exact⟨by rw[jn.out];rfl,(dy.alloc jl _)⟩
 ·have hc:Uo a b i=(i/4%a,i/4/a,i%4,0):=by unfold Uo;rw[hi];rfl
  have N_:0<=i%4/\i%4<=3:=Gv
  have hr:R=if(nbr (i/4%a) (i/4/a) (i%4) e).2.2.2=0 then idI a b (nbr (i/4%a) (i/4/a) (i%4) e).1 (nbr (i/4%a) (i/4/a) (i%4) e).2.1 (nbr (i/4%a) (i/4/a) (i%4) e).2.2.1 else (0,1):=by
   rw[<-HR.out];unfold nbI;rw[Ha (by rw[hi];simp)]
  rw[hc];unfold Nh;obtain⟨cx,ua⟩:=ez (i/4%a);obtain⟨cy,DC⟩:=ez (i/4/a);obtain⟨cq,hcq⟩:=ez (i%4);rw[<-ua,<-DC,<-hcq]at hr⊢;rw[<-hcq]at N_;have cg:=vJ cx cy cq e;obtain⟨⟨nx,ny,nq,ne⟩,hn⟩:=ey (nbr cx cy cq e);rw[hn]at hr cg;have jn:=Ah hr;have JD:=Ah hn;dsimp only at cg;clear hc hr hi hn ua DC hcq;dsimp only;go_wp2_with fail;have rn:=Ah (hQ.below (dy.alloc jl (.cells #[cx,cy,Aa Ac cq] 90)));refine(Sg cx cy cq e _ N_.1 he rn.out).mono ?_;rintro e' w3 ⟨rfl,bh⟩;rw[JD.out];unfold Nh;dsimp only;have jw:Below w.heap.size w w3:=(dy.alloc jl _).trans (bh.mono Hv);have P1:=Ah (kept bh ((Eh _ _ _ bw).trans M1.out) Hv);have hs3:=jw.size;have qi:N<w3.heap.size:=by have:=bh.size;simp at this;omega
  obtain⟨⟨v0,v1⟩,_⟩:=Hm P1.out;clear bh M1;by_cases hne:ne=0
  ·subst hne;go_wp2_with fail;refine(Bx0 a b nx ny nq _ HS.out Gv).mono ?_;rintro e' w4 ⟨rfl,da⟩;have EU:Below w.heap.size w w4:=(jw.alloc hs3 _).trans (da.mono Hv);obtain⟨⟨id,ie⟩,hid⟩:=ey (idI a b nx ny nq);have am:R=(id,ie):=by rw[jn.out];exact hid
   rw[hid];unfold fD;dsimp only;have HF:=Ah am;clear am hid v0 v1;go_wp2_with fail
   go_ret2
   exact⟨by rw[HF.out];rfl,EU⟩
  ·have am:R=(0,1):=by rw[jn.out];exact Ha hne
   have hb:(ne != 0)=true:=by simpa using hne
   have HF:=Ah am;clear am hne v0 v1;go_wp2_with fail
   go_ret2
   exact⟨by rw[HF.out];rfl,jw.alloc hs3 _⟩
def Ij (a b i e:Int):Int×Int×Int:=if(nbI a b i e).2=0 then (min i (nbI a b i e).1,e,0)else (0,0,(nbI a b i e).2)
def Vr (u:Int×Int×Int):Ak:= .tuple #[.agg #[Aa Ab u.1,Aa Ac u.2.1],Aa Ab u.2.2]
def Zg (a b i e:Int) (w:Aj) (hs:okS a b=true) (he:0<=e) (hQ:Qt w):
  Al Dp 160 #[.agg #[a,b],i,Aa Ac e] w (Gz (Vr (Ij a b i e)) w):=by
 obtain⟨R,hR⟩:=ey (Ij a b i e);rw[hR];have HR:=Ah hR;have HS:=Ah hs;obtain⟨n1,n2⟩:=iD w (.cells #[a,b] 25) (.cells #[Aa Ab 0,Aa Ac 0] 194);have ci:Below w.heap.size w ((w.alloc (.cells #[a,b] 25)).alloc (.cells #[Aa Ab 0,Aa Ac 0] 194)):=((Ag _ _).alloc (Am _) _).alloc Gy _;have ap:w.heap.size+1<((w.alloc (.cells #[a,b] 25)).alloc (.cells #[Aa Ab 0,Aa Ac 0] 194)).heap.size:=Gy;clear hR hs;go_in;go_upto_region 1 with fail;generalize (w.alloc _).alloc _=W at n1 n2 ci ap⊢;obtain⟨N,hN⟩:=ez w.heap.size;rw[<-hN]at n1 n2 ap⊢;have ct:=Ah hN;have N2:=Ah n2;obtain⟨⟨x0,x1⟩,_⟩:=Hm n1;clear n1 n2 hN;go_wp2_with fail;refine(Jj a b i e _ HS.out he (hQ.below ci)).mono ?_;rintro e' w2 ⟨rfl,aj⟩;have dy:Below w.heap.size w w2:=Up ci aj;have M2:=Ah (kept aj N2.out ap);obtain⟨⟨r0,r1⟩,z0,z1⟩:=Hm M2.out;obtain⟨⟨id,ie⟩,hid⟩:=ey (nbI a b i e);rw[hid];unfold fD;dsimp only;have SF:=Ah hid;have h9:=ct.out;clear x0 x1 aj N2 hid;by_cases hne:ie=0
 ·subst hne;by_cases hmi:id<i
  ·have am:R=(id,e,0):=by rw[<-HR.out];unfold Ij;rw[SF.out,Hc rfl,Int.min_eq_right Gv]
   have HF:=Ah am;clear am h9;go_wp2_with fail;refine Ai (v:=Vr (id,e,0)) (by simp[results,Tryz.results160,go_sem,r0,r1,Vr]) rfl ⟨by rw[HF.out],?_⟩;have h9:=ct.out;exact(dy.setCell Hv _).setCell Hv _
  ·have am:R=(i,e,0):=by rw[<-HR.out];unfold Ij;rw[SF.out,Hc rfl,Int.min_eq_left Gv]
   have HF:=Ah am;clear am h9;go_wp2_with fail;refine Ai (v:=Vr (i,e,0)) (by simp[results,Tryz.results160,go_sem,r0,r1,Vr]) rfl ⟨by rw[HF.out],?_⟩;have h9:=ct.out;exact(dy.setCell Hv _).setCell Hv _
 ·have am:R=(0,0,ie):=by rw[<-HR.out];unfold Ij;rw[SF.out,Ha hne]
  have hb:(ie != 0)=true:=by simpa using hne
  have HF:=Ah am;clear am h9 hne;go_wp2_with fail;refine Ai (v:=Vr (0,0,ie)) (by simp[results,Tryz.results160,go_sem,r0,r1,Vr]) rfl ⟨by rw[HF.out],?_⟩;have h9:=ct.out;exact(dy.setCell Hv _).setCell Hv _
structure Cr where
 c:Int
 e:Int
 k:Int
def Cr.cells (r:Cr):List Ak:=[Aa Ab r.c,Aa Ac r.e,Aa Ac r.k]
def crs (l:List Cr):List Ak:=l.flatMap Cr.cells
def lF (r:Cr):r.cells.length=3:=rfl
def Bi2 (l:List Cr):(crs l).length=l.length*3:=Kq _ 3 lF l
def yN (l:List Cr):∀u∈crs l,u.oneCell'=true:=by
 intro u hu;obtain⟨r,_,hr⟩:=List.mem_flatMap.1 hu;simp only[Cr.cells,List.mem_cons,List.not_mem_nil,or_false]at hr;rcases hr with h|h|h<;>subst h<;>rfl
def Xh {l:List Cr} (h:Rd w A 3 l.length (crs l)) (i:Nat) (hi:i<l.length):
  ∃b o,A=Af ⟨b,o,Ae⟩/\b<w.heap.size/\w.cell? ⟨b,o+i*3,Ae⟩=Af (Aa Ab l[i].c)/\w.cell? ⟨b,o+i*3+1,Ae⟩=Af (Aa Ac l[i].e)/\w.cell? ⟨b,o+i*3+2,Ae⟩=Af (Aa Ac l[i].k):=by
 obtain⟨b,o,e,hb,hc⟩:=h.2 Gv;refine⟨b,o,e,hb,?_,?_,?_⟩
 ·exact hc (i*3+0) _ ((It _ 3 lF l i 0 hi Gv).trans rfl)
 ·exact hc (i*3+1) _ ((It _ 3 lF l i 1 hi Gv).trans rfl)
 ·exact hc (i*3+2) _ ((It _ 3 lF l i 2 hi Gv).trans rfl)
def Kv (c e c' e':Int):Int:=if c=c' then e-e' else c-c'
def Cr.fit (r:Cr):Prop:=(0<=r.c/\r.c<=1024)/\(0<=r.e/\r.e<=255)/\(0<=r.k/\r.k<=255)
def Zx (c e k:Int) (w:Aj):
  Al Dp 161 #[.agg #[c,Aa Ac e,Aa Ac k]] w (Gz (.agg #[c,Aa Ac e]) w):=by
 go_in;go_wp2_with fail;refine Ai (v:= .agg #[c,Aa Ac e]) (by simp[results,Tryz.results161,go_sem]) rfl ⟨rfl,?_⟩
 repeat' (first|exact Ag _ _|refine Below.drew ?_|refine Below.setCell ?_ Gy _|refine Below.alloc ?_ Gy _)
def jK (c e c' e':Int) (w:Aj) (hc:0<=c/\c<=1024) (hc':0<=c'/\c'<=1024) (he:0<=e/\e<=255) (JR:0<=e'/\e'<=255):
  Al Dp 162 #[.agg #[c,Aa Ac e],.agg #[c',Aa Ac e']] w (Gz (Aa Ab (Kv c e c' e')) w):=by
 obtain⟨h1,h2⟩:=hc;obtain⟨h3,h4⟩:=hc';obtain⟨h5,h6⟩:=he;obtain⟨h7,h8⟩:=JR;obtain⟨R,hR⟩:=ey (Kv c e c' e');rw[hR];have HR:=Ah hR;clear hR;by_cases gv:c=c'
 ·have hb:(c != c')=false:=by simpa using gv
  have ya:=Ah gv;clear gv;have k1:=Cb (e) Gv;have k2:=Cb (e') Gv;go_in;go_wp2;go_ret;exact⟨Iw (by rw[<-HR.out];unfold Kv;rw[Hc ya.out]),((Ag _ _).alloc (Am _) _).alloc Gy _⟩
 ·have hb:(c != c')=true:=by simpa using gv
  have ya:=Ah gv;clear gv;go_in;go_wp2;go_ret;exact⟨Iw (by rw[<-HR.out];unfold Kv;rw[Ha ya.out]),((Ag _ _).alloc (Am _) _).alloc Gy _⟩
def isK (k:Int):Bool:=decide (1<=k)&&decide (k<=3)
def uP (k:Int) (w:Aj):Al Dp 159 #[Aa Ac k] w λe w'=>e= .returned (.bool (isK k))/\w=w':=by
 obtain⟨R,hR⟩:=ey (isK k);rw[hR];have HR:=Ah hR;clear hR;go_in;go_wp2_with fail
 all_goals go_ret
 ·exact⟨Rq (by rw[<-HR.out];unfold isK;rw[Ld (show 1<=k by omega),Bool.true_and]),rfl⟩
 ·exact⟨Rq (by rw[<-HR.out];unfold isK;rw[Me (show¬1<=k by omega),Bool.false_and]),rfl⟩
def nH (r:Cr) (w:Aj):Al Dp 158 #[.agg #[Aa Ab r.c,Aa Ac r.e,Aa Ac r.k]] w (Gz (.bool (!isK r.k)) w):=by
 obtain⟨R,hR⟩:=ey (isK r.k);rw[hR];have HR:=Ah hR;clear hR;go_in;go_wp2_with fail;refine(uP r.k _).mono ?_;rintro e w2 ⟨rfl,rfl⟩;rw[HR.out]
 cases R
 ·go_wp2;go_ret;exact⟨rfl,(Ag _ _).alloc (Am _) _⟩
 ·go_wp2;go_ret;exact⟨rfl,(Ag _ _).alloc (Am _) _⟩
def pQ (A:Option Cj) (l:List Cr) (n c:Nat) (w:Aj) (hn:n=l.length) (h:Rd w A 3 n (crs l)) (hk:∀r∈l,isK r.k=true) (hl:n<=1000000):
  Al Dp 157 #[Ad A n c,.func (.func 158) #[] #[]] w (Gz (.bool false) w):=by
 have BV:Al Dp 211 #[Ad A n c,.func (.func 158) #[] #[]] w (Gz (Aa Ab (-1)) w):=by
  subst hn;go_in;go_wp2
  go_loopw [5,8] (λ_ i wr=>∃k:Nat,k<=l.length/\i= Aa Ab k/\Below w.heap.size w wr) (λ_ i _=>l.length-(intOf i).toNat)
  case atStart=>exact⟨0,Gv,rfl,Ag _ _⟩
  obtain⟨k,zv,rfl,kj⟩:=hrel;by_cases ac:k<l.length
  ·obtain⟨b,o,rfl,cj,c0,c1,c2⟩:=Xh (h.below kj) k ac;have iz:=hk l[k] (Ay _);generalize l[k]=r at c0 c1 c2 iz;have CL:=Ah iz;clear iz;go_wp2_with fail;refine(nH r _).mono ?_;rintro e w2 ⟨rfl,aj⟩;rw[CL.out];have dy:Below w.heap.size w w2:=Up kj aj;go_wp2
   go_roundw
   case rel=>exact⟨k+1,Gv,by go_num,dy⟩
   case measure=>simp[intOf];omega
  ·go_wp2;go_ret;exact⟨rfl,kj⟩
 have DX:=Ah BV;clear BV hn h hk;go_in;go_wp2_with fail;refine DX.out.mono ?_;rintro e w2 ⟨rfl,aj⟩;go_wp2;go_ret;exact⟨rfl,aj⟩
structure Lo (a b:Int) (l:List Cr):Prop where
 sheet:okS a b=true
 kind:∀r∈l,isK r.k=true
 name:∀r∈l,Ij a b r.c r.e=(r.c,r.e,0)
 fit:∀r∈l,r.fit
 asc:l.Pairwise λr q=>Kv r.c r.e q.c q.e<0
 len:l.length<=1000000
def aZ (a b:Int) (A:Option Cj) (l:List Cr) (n c:Nat) (w:Aj) (hn:n=l.length) (h:Rd w A 3 n (crs l)) (hp:Lo a b l) (hQ:Qt w):
  Al Dp 100 #[.agg #[a,b,Ad A n c]] w (Gz (Aa Ab 0) w):=by
 have HN:=Ah hn;have dt:=Ah h;have HP:=Ah hp;have hlen:n<=1000000:=oHx hp.len;have fk:(w.alloc (.cells #[a,b,Ad A n c] 28)).heap[w.heap.size]? =Af (.cells #[a,b,Ad A n c] 28 (0,0)):=Ca w _;have ci:Below w.heap.size w (w.alloc (.cells #[a,b,Ad A n c] 28)):=(Ag _ _).alloc (Am _) _;have ap:w.heap.size<(w.alloc (.cells #[a,b,Ad A n c] 28)).heap.size:=Gy;clear hn h hp;go_in;go_upto_region 1 with fail;generalize w.alloc _=W at fk ci ap⊢;generalize w.heap.size=N at fk ap⊢;have N1:=Ah fk;obtain⟨⟨x0,x1,x2⟩,_⟩:=Hg fk;clear fk;go_wp2_with fail;refine(Js a b _).mono ?_;rintro e w2 ⟨rfl,aj⟩;rw[HP.out.sheet,Lq];have dy:Below w.heap.size w w2:=Up ci aj;have M1:=Ah (kept aj N1.out ap);obtain⟨⟨y0,y1,y2⟩,_⟩:=Hg M1.out;have bw:N<w2.heap.size:=Br ap aj.size;clear x0 x1 x2 aj N1;go_wp2_with fail;refine(pQ A l n c _ HN.out (dt.out.below dy) HP.out.kind hlen).mono ?_;rintro e w3 ⟨rfl,bh⟩;have jw:Below w.heap.size w w3:=Up dy bh;have P1:=Ah (kept bh M1.out bw);obtain⟨⟨z0,z1,z2⟩,_⟩:=Hg P1.out;have qi:N<w3.heap.size:=Br bw bh.size;clear y0 y1 y2 bh M1;go_wp2
 go_loopw [5,6,7,21] (λ_ _ _ i wr=>∃k:Nat,k<=n/\i= Aa Ab k/\wr.heap[N]? =Af (.cells #[a,b,Ad A n c] 28 (0,0))/\N<wr.heap.size/\Below w.heap.size w wr) (λ_ _ _ i _=>n-(intOf i).toNat)
 case atStart=>exact⟨0,Gv,rfl,P1.out,qi,jw⟩
 obtain⟨k,hk,rfl,tj,hNr,kj⟩:=hrel;have HBK:=Ah tj;obtain⟨⟨g0,g1,g2⟩,_⟩:=Hg tj;have AY:=kj.size;clear z0 z1 z2 tj;by_cases ac:k<n
 ·have be:k<l.length:=oHx HN.out;have ba:=dt.out.below kj;rw[HN.out]at ba;obtain⟨bb,o,rfl,cj,c0,c1,c2⟩:=Xh ba k be;have ka:=HP.out.name l[k] (Ay _);have DD:=HP.out.fit l[k] (Ay _);generalize l[k]=r at c0 c1 c2 ka DD;have GG:=Ah ka;have he0:0<=r.e:=DD.2.1.1;clear ka ba DD;have q1:(k:Int)<(n:Int):=Gv;go_wp2_with fail;have rn:=hQ.below (kj.alloc AY (.cells #[Aa Ab r.c,Aa Ac r.e,Aa Ac r.k] 192));refine(Zg a b r.c r.e _ HP.out.sheet he0 rn).mono ?_;rintro e w4 ⟨rfl,da⟩;rw[GG.out];unfold Vr;dsimp only;have DL:=da.size;simp only[World.size_alloc]at DL;have EU:Below w.heap.size w w4:=(kj.alloc AY _).trans (da.mono Hv);have m1:w4.heap[wr.heap.size]? =Af (.cells #[Aa Ab r.c,Aa Ac r.e,Aa Ac r.k] 192 (0,0)):=kept da (Ca wr _) Gy;have m2:w4.heap[N]? =Af (.cells #[a,b,Ad (Af ⟨bb,o,Ae⟩) n c] 28 (0,0)):=kept da ((Eh _ _ _ hNr).trans HBK.out) Hv;have k1:(w4.alloc (.cells #[Aa Ab r.c,Aa Ac r.e] 194)).heap[wr.heap.size]? =Af (.cells #[Aa Ab r.c,Aa Ac r.e,Aa Ac r.k] 192 (0,0)):=(Eh _ _ _ Gv).trans m1;have k2:(w4.alloc (.cells #[Aa Ab r.c,Aa Ac r.e] 194)).heap[w4.heap.size]? =Af (.cells #[Aa Ab r.c,Aa Ac r.e] 194 (0,0)):=Ca _ _;have k3:(w4.alloc (.cells #[Aa Ab r.c,Aa Ac r.e] 194)).heap[N]? =Af (.cells #[a,b,Ad (Af ⟨bb,o,Ae⟩) n c] 28 (0,0)):=(Eh _ _ _ Gv).trans m2;have db:Below w.heap.size w (w4.alloc (.cells #[Aa Ab r.c,Aa Ac r.e] 194)):=EU.alloc EU.size _;have LJ:N<(w4.alloc (.cells #[Aa Ab r.c,Aa Ac r.e] 194)).heap.size:=Hv;go_upto_region 10 with fail;generalize w4.alloc _=V at k1 k2 k3 db LJ⊢;obtain⟨p1,qs⟩:=ez wr.heap.size;obtain⟨p2,lv⟩:=ez w4.heap.size;rw[<-qs]at k1⊢;rw[<-lv]at k2⊢;obtain⟨⟨f0,f1,f2⟩,_⟩:=Hg k1;obtain⟨⟨u0,u1⟩,_⟩:=Hm k2;have K3:=Ah k3
  clear qs lv k1 k2 k3 m1 m2 c0 c1 c2 g0 g1 g2 da EU
  go_region_held3 (λw'=>w'.cell? ⟨p2,0,Ae⟩=Af (Aa Ab r.c)/\w'.cell? ⟨p2,1,Ae⟩=Af (Aa Ac r.e)/\w'.cell? ⟨p1,0,Ae⟩=Af (Aa Ab r.c)/\w'.cell? ⟨p1,1,Ae⟩=Af (Aa Ac r.e)/\w'.cell? ⟨p1,2,Ae⟩=Af (Aa Ac r.k))
   (first|exact⟨u0,u1,f0,f1,f2⟩|exact⟨Gw (Hl bc) u0,Gw (Hl bc) u1,Gw (Hl bc) f0,Gw (Hl bc) f1,Gw (Hl bc) f2⟩|go_keep)
   (first|(go_at_call 161;(with_reducible refine(Zx _ _ _ _).mono ?_);rintro e w6 ⟨rfl,bc⟩)|fail)
  have dc:=Hl bc;have K6:=Ah (kept dc K3.out LJ);have hb6':Below w.heap.size w w6:=Up db dc;have hN6:N<w6.heap.size:=Br LJ dc.size;clear u0 u1 f0 f1 f2 bc dc;go_wp2
  go_roundw
  case rel=>exact⟨k+1,Gv,by go_num,K6.out,hN6,hb6'⟩
  case measure=>simp[intOf];omega
 ·have q1:¬(k:Int)<(n:Int):=Gv;clear ac;go_wp2_with fail;obtain⟨wo,rfl⟩:∃wo:Aj,wo=wr:=⟨_,rfl⟩
  go_loopw [8] (λs8 wr=>∃i:Nat,1<=i/\(i<=n∨i=1)/\s8= Aa Ab i/\wr.heap[N]? =Af (.cells #[a,b,Ad A n c] 28 (0,0))/\N<wr.heap.size/\Below w.heap.size w wr) (λs8 _=>n+1-(intOf s8).toNat)
  case atStart=>exact⟨1,Gv,Gv,rfl,HBK.out,hNr,kj⟩
  obtain⟨i,ye,DE,rfl,K5,xj,tw⟩:=hrel;have DQ:=Ah K5;obtain⟨⟨d0,d1,d2⟩,_⟩:=Hg K5;clear g0 g1 g2 K5;by_cases ac:i<n
  ·obtain⟨p,hp⟩:∃p,i=p+1:=⟨i-1,Gv⟩;have bv:i<l.length:=oHx HN.out;have dr:p<l.length:=Gv;have ba:=dt.out.below tw;have YD:=HN.out;rw[YD]at ba;obtain⟨bb,o,hA,cj,c0,c1,c2⟩:=Xh ba i bv;obtain⟨bb',o',du,_,e0,e1,e2⟩:=Xh ba p dr;obtain⟨rfl,rfl⟩:bb=bb'/\o=o':=by rw[hA]at du;simpa using du
   have DD:=HP.out.fit l[i] (Ay _);have UI:=HP.out.fit l[p] (Ay _);have Q8:=List.pairwise_iff_getElem.1 HP.out.asc p i dr bv Gv;obtain⟨x,hx⟩:=ey (l[i]);obtain⟨y,hy⟩:=ey (l[p]);rw[hx]at c0 c1 c2 DD Q8;rw[hy]at e0 e1 e2 UI Q8;obtain⟨O,hO⟩:=ey (Kv y.c y.e x.c x.e);rw[hO]at Q8;have HOO:=Ah hO;have BQ:=DD.1;have BR:=DD.2.1;have XT:=UI.1;have hf4:=UI.2.1;have HPP:=Ah hp;have w1:(i:Int)<(n:Int):=Gv;have ZK:Ab.wrap ((i:Int)-1)=(p:Int):=by rw[Cb _ Gv];omega
   have w3':(p:Int)<(n:Int):=Gv;have w4':(0:Int)<=(p:Int):=Gv;have w5:(0:Int)<=(i:Int):=Gv;have K_:decide (0<=O)=false:=Hv;clear ba YD du hx hy hO hp DD UI;subst hA;go_wp2_with fail
   go_region_held3 (λw'=>w'.cell? ⟨N,2,Ae⟩=Af (Ad (Af ⟨bb,o,Ae⟩) n c)/\w'.cell? ⟨bb,o+i*3,Ae⟩=Af (Aa Ab x.c)/\w'.cell? ⟨bb,o+i*3+1,Ae⟩=Af (Aa Ac x.e)/\w'.cell? ⟨bb,o+i*3+2,Ae⟩=Af (Aa Ac x.k)/\w'.cell? ⟨bb,o+p*3,Ae⟩=Af (Aa Ab y.c)/\w'.cell? ⟨bb,o+p*3+1,Ae⟩=Af (Aa Ac y.e)/\w'.cell? ⟨bb,o+p*3+2,Ae⟩=Af (Aa Ac y.k))
    (first|exact⟨d2,c0,c1,c2,e0,e1,e2⟩|go_keep)
    (first
     |(go_at_call 161;(with_reducible refine(Zx _ _ _ _).mono ?_);rintro e w6 ⟨rfl,bc⟩;have tw:=tw.trans ((Hl bc).mono tw.size);have DQ:=Ah (kept (Hl bc) DQ.out xj);have xj:=Br xj (Hl bc).size;have d2:=Gw (Hl bc) d2;have c0:=Gw (Hl bc) c0;have c1:=Gw (Hl bc) c1;have c2:=Gw (Hl bc) c2;have e0:=Gw (Hl bc) e0;have e1:=Gw (Hl bc) e1;have e2:=Gw (Hl bc) e2)
     |(go_at_call 161;(with_reducible refine(Zx _ _ _ _).mono ?_);rintro e w6 ⟨rfl,bc⟩;have tw:=Up tw bc;have DQ:=Ah (kept bc DQ.out xj);have xj:=Br xj bc.size;have d2:=Gw bc d2;have c0:=Gw bc c0;have c1:=Gw bc c1;have c2:=Gw bc c2;have e0:=Gw bc e0;have e1:=Gw bc e1;have e2:=Gw bc e2)
     |(go_at_call 162;(with_reducible refine(jK y.c y.e x.c x.e _ XT BQ hf4 BR).mono ?_);rintro e w6 ⟨rfl,bc⟩;rw[HOO.out];have tw:=Up tw bc;have DQ:=Ah (kept bc DQ.out xj);have xj:=Br xj bc.size;have d2:=Gw bc d2;have c0:=Gw bc c0;have c1:=Gw bc c1;have c2:=Gw bc c2;have e0:=Gw bc e0;have e1:=Gw bc e1;have e2:=Gw bc e2)
     |fail)
   all_goals
    go_wp2
    go_roundw
    case rel=>exact⟨i+1,Gv,Gv,by go_num,DQ.out,xj,tw⟩
    case measure=>simp[intOf];omega
  ·have q2:¬(i:Int)<(n:Int):=Gv;go_wp2;go_ret;exact⟨rfl,tw⟩
def Hf (a:Int) (i:Nat):Cl:=⟨(i:Int)/4%a,(i:Int)/4/a,i%4⟩
def Nk (l:List Cr) (c e:Int):Bool:=l.any λr=>decide (r.c=c)&&decide (r.e=e)
def zK (a b c e:Int):(Int×Int)×Int:=if Ij a b c e=(c,e,0)then Xc (Hf a c.toNat) e.toNat else ((0,0),7)
def Ur (l:Int×Int):Mv×Int:=if okL l.1 l.2 then (ofL l.1 l.2,0)else (mv0,1)
def Lc (a b:Mv):Mv×Int:=if a.ok&&b.ok then Vq a b else (mv0,1)
def Pr (m:Mv) (c:Cl):Cl×Int:=if m.ok&&c.ok then Lj m c else (cl0,1)
def Kf (a b:Int) (l:List Cr) (out:List Mv) (id e:Nat):Mv:=
 if Nk l (Ij a b id e).1 (Ij a b id e).2.1 then (Lc (Ur (zK a b (Ij a b id e).1 (Ij a b id e).2.1).1).1 (out.getD id mv0)).1 else out.getD id mv0
structure RS where
 out:List Mv
 known:List Bool
 wait:List Nat
def Ow (a b:Int) (l:List Cr) (id e:Nat) (s:RS):Option RS:=
 if(nbI a b id e).2≠0 then Af s
 else
  let n:=(nbI a b id e).1.toNat
  let m:=Kf a b l s.out id e
  let s':RS:=if s.known.getD n false then s else⟨s.out.set n m,s.known.set n true,s.wait++[n]⟩
  if s'.out.getD n mv0=m then Af s' else Ae
def Qn (a b:Int) (l:List Cr) (id:Nat) (s:RS):Option RS:=(Ow a b l id 0 s).bind λs=>(Ow a b l id 1 s).bind λs=>Ow a b l id 2 s
def Sa (a b:Int) (l:List Cr):Nat->RS->Option (List Mv)
 |0,s=>Af s.out
 |f+1,s=>match s.wait with
  |[]=>Af s.out
  |id::r=>(Qn a b l id ⟨s.out,s.known,r⟩).bind (Sa a b l f)
def Hh (a b:Int):Nat:=(4*a*b).toNat
def Uh (a b:Int) (l:List Cr):Option (List Mv):=Sa a b l (Hh a b+1) ⟨Ba (Hh a b) mv0,true::Ba (Hh a b-1) false,[0]⟩
def Lp (a:Int) (root:Mv) (l:List Mv) (i:Nat):Int:=if(Lc (l.getD i mv0) root).2≠0 then (Lc (l.getD i mv0) root).2 else (Pr (Lc (l.getD i mv0) root).1 (Hf a i)).2
def Ie (a b:Int) (l:List Cr) (root:Mv):(List Mv×List Cl)×Int:=
 if root.ok=false then (([],[]),1)
 else match Uh a b l with
  |none=>(([],[]),11)
  |some m=>match(Ds m.length).find? λi=>Lp a root m i≠0 with
   |some i=>(([],[]),Lp a root m i)
   |none=>((m.map λx=>(Lc x root).1,(Ds m.length).map λi=>(Pr (Lc (m.getD i mv0) root).1 (Hf a i)).1),0)
def Rc (m:Mv):Bool:=m.ok&&decide (4<=m.t)
def upF (a b:Int) (l:List Cr) (root:Mv):List Bool×Int:=
 if(Ie a b l root).2≠0 then ([],(Ie a b l root).2)else ((Ie a b l root).1.1.map λm=> !Rc m,0)
structure Stk where
 c:Cl
 ls:List Nat
def Kn (n:Nat) (l:List Stk) (i:Nat):Bool:=match l[i]? with
 |none=>false
 |some x=> !x.c.ok||(match i with|0=>false|j+1=>match l[j]? with|none=>false|some y=>decide (0<=Ka y.c x.c))||x.ls.isEmpty||x.ls.any λid=>decide (n<=id)
def Hn (l:List Stk):List Nat:=l.flatMap (·.ls)
def chkS (n:Nat) (l:List Stk):Int:=
 if(Ds l.length).any (Kn n l)then 1 else if¬(Hn l).Nodup then 8 else if(Hn l).length<n then 6 else 0
def mvR (r:Mv×Int):Ak:= .tuple #[r.1.v,Aa Ab r.2]
def pV (t:Nat) (x y:Int) (w:Aj) (ht:t<=255):Al Dp 126 #[.agg #[Aa Ac t,x,y]] w (Gz (mvR (gY ⟨t,x,y⟩)) w):=by
 obtain⟨R,hR⟩:=ey (gY ⟨t,x,y⟩);rw[hR];have HR:=Ah hR;have HC:=Ah (show 0<=(t:Int)/\(t:Int)<=255 by omega);have H:=((Bx.start w).new #[Aa Ac t,x,y] 30 rfl).new #[Aa Ac 0,Aa Ab 0,Aa Ab 0] 30 (N:=w.heap.size+1) Gy;clear hR;go_in;go_upto_region 1 with fail;generalize (w.alloc _).alloc _=W at H⊢;generalize w.heap.size=N at H⊢;obtain⟨⟨a0,a1,a2⟩,_⟩:=Hg (H.b 0);go_wp2_with fail;refine(Jn t x y _ HC.out).mono ?_;rintro e w2 ⟨rfl,hb⟩;have H2:=H.call hb;obtain⟨⟨b0,b1,b2⟩,_⟩:=Hg (H2.b 0);obtain⟨⟨c0,c1,c2⟩,d0,d1,d2⟩:=Hg (H2.b 1);clear a0 a1 a2 hb H
 cases hk:okM t x y
 ·have am:R=(mv0,3):=by rw[<-HR.out];unfold gY Mv.ok;rw[hk];rfl
  rw[Qm];clear hk;go_wp2_with fail;have H3:=((H2.set 1 0 rfl (Aa Ac 0)).set 1 1 rfl (Aa Ab 0)).set 1 2 rfl (Aa Ab 0);exact Ai (Hj rfl rfl (H3.range 1 rfl) Fi rfl Gx) rfl ⟨by rw[am];rfl,H3.below⟩
 ·have am:R=(⟨t,x,y⟩,0):=by rw[<-HR.out];unfold gY Mv.ok;rw[hk];rfl
  rw[Lq];clear hk;go_wp2_with fail;have H3:=((H2.set 1 0 rfl (Aa Ac t)).set 1 1 rfl (Aa Ab x)).set 1 2 rfl (Aa Ab y);exact Ai (Hj rfl rfl (H3.range 1 rfl) Fi rfl Gx) rfl ⟨by rw[am];rfl,H3.below⟩
def Ae2 (m:Mv) (w:Aj) (ht:m.t<=255):Al Dp 129 #[.agg #[Aa Ac m.t,Aa Ab m.x,Aa Ab m.y]] w (Gz (.bool (Rc m)) w):=by
 obtain⟨R,hR⟩:=ey (Rc m);rw[hR];have HR:=Ah hR;obtain⟨t,x,y⟩:=m;dsimp only at ht⊢;have HC:=Ah (show 0<=(t:Int)/\(t:Int)<=255 by omega);have H:=(Bx.start w).new #[Aa Ac t,x,y] 30 rfl;clear hR;go_in;go_upto_region 1 with fail;generalize w.alloc _=W at H⊢;generalize w.heap.size=N at H⊢;obtain⟨⟨a0,a1,a2⟩,_⟩:=Hg (H.b 0);go_wp2_with fail;refine(Jn t x y _ HC.out).mono ?_;rintro e w2 ⟨rfl,hb⟩;have H2:=H.call hb;obtain⟨⟨b0,b1,b2⟩,_⟩:=Hg (H2.b 0);clear a0 a1 a2 hb H
 cases hk:okM t x y
 ·have am:R=false:=by rw[<-HR.out];unfold Rc Mv.ok;rw[hk];rfl
  rw[Qm];clear hk;go_wp2;go_ret;exact⟨by subst am;first|rfl|simp,H2.below⟩
 ·have am:R=decide (4<=t):=by rw[<-HR.out];unfold Rc Mv.ok;rw[hk];rfl
  have HF:=Ah am;rw[Lq];clear hk am;by_cases h4:4<=t
  ·have h4':(4:Int)<=t:=Gv;go_wp2;go_ret;exact⟨Rq (by rw[HF.out,Ld h4];first|done|(simp;done)|(simp;omega)),H2.below⟩
  ·have h4':¬(4:Int)<=t:=Gv;go_wp2;go_ret;exact⟨Rq (by rw[HF.out,Me h4];first|done|(simp;done)|(simp;omega)),H2.below⟩
def qB (s t:Nat) (hs:s<8) (ht:t<8):Lb (Iq (mat s) (mat t))<8/\Iq (mat s) (mat t)=mat (Lb (Iq (mat s) (mat t))):=by
 have:∀s<8,∀t<8,Lb (Iq (mat s) (mat t))<8/\Iq (mat s) (mat t)=mat (Lb (Iq (mat s) (mat t))):=He;exact this s hs t ht
def Mv.ok_iff {m:Mv}:m.ok=true↔m.t<8/\(-16384<=m.x/\m.x<=16384)/\(-16384<=m.y/\m.y<=16384)/\(m.x+m.y)%2=0:=by
 unfold Mv.ok;rw[Ry];omega
def dY {P b o j:Nat} {v x:Ak} (hne:b≠P) (h:w.cell? ⟨b,o,Ae⟩=Af v):(w.setCell ⟨P,j,Ae⟩ x).cell? ⟨b,o,Ae⟩=Af v:=by
 rw[World.cell?_setCell_other _ _ _ _ Gy];exact h
def Je {P b o i j k:Nat} {v x y z:Ak} (hne:b≠P) (h:w.cell? ⟨b,o,Ae⟩=Af v):(((w.setCell ⟨P,i,Ae⟩ x).setCell ⟨P,j,Ae⟩ y).setCell ⟨P,k,Ae⟩ z).cell? ⟨b,o,Ae⟩=Af v:=
 dY hne (dY hne (dY hne h))
def Bq0 (m n:Mv) (w:Aj) (hm:m.ok=true) (hn:n.ok=true) (hT:Tn w):
  Al Dp 71 #[.agg #[Aa Ac m.t,Aa Ab m.x,Aa Ab m.y],.agg #[Aa Ac n.t,Aa Ab n.x,Aa Ab n.y]] w (Gz (mvR (Vq m n)) w):=by
 obtain⟨⟨⟨rt,rx,ry⟩,re⟩,hR⟩:∃R,Vq m n=R:=⟨_,rfl⟩;rw[hR];obtain⟨m1,⟨m2,m3⟩,⟨m4,m5⟩,_⟩:=Mv.ok_iff.1 hm;obtain⟨n1,⟨n2,n3⟩,⟨n4,n5⟩,_⟩:=Mv.ok_iff.1 hn;obtain⟨k1,k2⟩:=qB m.t n.t m1 n1;obtain⟨t,x,y⟩:=m;obtain⟨u,p,q⟩:=n;dsimp only at m1 m2 m3 m4 m5 n1 n2 n3 n4 n5 k1 k2⊢;have JM:=λw=>mD u x y w Gv Gv;have XO:=λw=>Bd5 t u w;obtain⟨⟨V3,V4⟩,V5,V6⟩:=fO u (x:=x) (y:=y) (B:=16384) Gv Gv;unfold Vq at hR;dsimp only at hR;generalize Lb (Iq (mat t) (mat u))=r at k1 k2 hR;rw[k2]at XO;obtain⟨⟨sx,sy⟩,hs⟩:=ey (Ii (mat u) x y);rw[hs]at JM hR V3 V4 V5 V6;dsimp only at JM hR V3 V4 V5 V6;obtain⟨⟨a1,a2,a3,a4⟩,bi⟩:=ey (mat t);obtain⟨⟨b1,b2,b3,b4⟩,hau⟩:=ey (mat u);have LP:=λ(w':Aj) (h:Tn w')=>h.at' t m1;have L4:=λ(w':Aj) (h:Tn w')=>h.at' u n1;rw[bi]at XO LP;rw[hau]at JM XO L4;have la:=λw h=>vO r k1 w h;obtain⟨⟨c1,c2,c3,c4⟩,BM⟩:=ey (mat r);rw[BM]at la;unfold Cd7 at XO;rw[BM]at XO;dsimp only at XO LP L4 JM la;have O7:=λw=>pV r (sx+p) (sy+q) w Gv;rw[hR]at O7;have e1:okM t x y=true:=hm;have e2:okM u p q=true:=hn;have E1:=Ah e1;have E2:=Ah e2;have BD:=Ah JM;have y7:=Ah XO;have KT:=Ah LP;have HCU:=Ah L4;have HNUM:=Ah la;have HLIM:=Ah O7;have B1:=Ah (show 0<=(t:Int)/\(t:Int)<=255 by omega);have B2:=Ah (show 0<=(u:Int)/\(u:Int)<=255 by omega);have w1:=Cb (sx+p) Gv;have ZK:=Cb (sy+q) Gv;have q1:(t:Int)<8:=Gv;have q2:(u:Int)<8:=Gv;have H:=(((Bx.start w).new #[Aa Ac t,x,y] 30 rfl).new #[Aa Ac u,p,q] 30 (N:=w.heap.size+1) Gy).new #[Aa Ac 0,Aa Ab 0,Aa Ab 0] 30 (N:=w.heap.size+2) Gy;have HT:=Ah hT;clear hR JM XO LP L4 la O7 e1 e2 hm hn hs bi hau BM k2 hT;go_in;go_upto_region 1 with fail;generalize ((w.alloc _).alloc _).alloc _=W at H⊢
 generalize w.heap.size=N at H⊢;obtain⟨P,hP⟩:=ez (N+2);rw[<-hP]at H;rw[show N+1+1=P from hP.symm];have OH:N≠P:=Gv;have FI:N+1≠P:=Gv;have AB:0≠P:=oHx HT.out.lt;clear hP;obtain⟨⟨f0,f1,f2⟩,_⟩:=Hg (H.b 0);obtain⟨⟨g0,g1,g2⟩,_⟩:=Hg (H.b 1);go_wp2_with fail;refine(Jn t x y _ B1.out).mono ?_;rintro e w2 ⟨rfl,hb⟩;rw[E1.out,Lq];have H2:=H.call hb;clear f0 f1 f2 g0 g1 g2 hb H;obtain⟨⟨f0,f1,f2⟩,_⟩:=Hg (H2.b 0);obtain⟨⟨g0,g1,g2⟩,_⟩:=Hg (H2.b 1);go_wp2_with fail;refine(Jn u p q _ B2.out).mono ?_;rintro e w3 ⟨rfl,hb⟩;rw[E2.out,Lq];have H3:=H2.call hb;clear f0 f1 f2 g0 g1 g2 hb H2;obtain⟨⟨f0,f1,f2⟩,_⟩:=Hg (H3.b 0);obtain⟨⟨g0,g1,g2⟩,_⟩:=Hg (H3.b 1);have HT3:=HT.out.below H3.below;obtain⟨u0,u1,u2,u3⟩:=HCU.out _ HT3;go_upto_region 3 with fail
 go_region_held3 (λw'=>w'.cell? ⟨N,1,Ae⟩=Af (Aa Ab x)/\w'.cell? ⟨N,2,Ae⟩=Af (Aa Ab y)/\w'.cell? ⟨N+1,0,Ae⟩=Af (Aa Ac u)/\w'.cell? ⟨0,u*4,Ae⟩=Af (Aa Ab b1)/\w'.cell? ⟨0,u*4+1,Ae⟩=Af (Aa Ab b2)/\w'.cell? ⟨0,u*4+2,Ae⟩=Af (Aa Ab b3)/\w'.cell? ⟨0,u*4+3,Ae⟩=Af (Aa Ab b4))
  (first|exact⟨f1,f2,g0,u0,u1,u2,u3⟩|go_keep)
  (first|(go_at_call 125;(with_reducible refine(BD.out _).mono ?_);rintro e w4 ⟨rfl,da⟩;have H3:=H3.call (Hl da);have f1:=Gw (Hl da) f1;have f2:=Gw (Hl da) f2;have g0:=Gw (Hl da) g0;have u0:=Gw (Hl da) u0;have u1:=Gw (Hl da) u1;have u2:=Gw (Hl da) u2;have u3:=Gw (Hl da) u3)|fail)
 have WO:=HT.out.below H3.below;obtain⟨v0,v1,v2,v3⟩:=KT.out _ WO;obtain⟨u0,u1,u2,u3⟩:=HCU.out _ WO;clear f0 f1 f2 g0 g1 g2;obtain⟨⟨f0,f1,f2⟩,_⟩:=Hg (H3.b 0);obtain⟨⟨g0,g1,g2⟩,_⟩:=Hg (H3.b 1);obtain⟨_,z0,z1,z2⟩:=Hg (H3.b 2);clear HT3;go_upto_region 4 with fail
 go_region_held3 (λw'=>w'.cell? ⟨N,0,Ae⟩=Af (Aa Ac t)/\w'.cell? ⟨N+1,0,Ae⟩=Af (Aa Ac u)/\w'.cell? ⟨N+1,1,Ae⟩=Af (Aa Ab p)/\w'.cell? ⟨N+1,2,Ae⟩=Af (Aa Ab q)/\w'.cell? ⟨0,t*4,Ae⟩=Af (Aa Ab a1)/\w'.cell? ⟨0,t*4+1,Ae⟩=Af (Aa Ab a2)/\w'.cell? ⟨0,t*4+2,Ae⟩=Af (Aa Ab a3)/\w'.cell? ⟨0,t*4+3,Ae⟩=Af (Aa Ab a4)/\w'.cell? ⟨0,u*4,Ae⟩=Af (Aa Ab b1)/\w'.cell? ⟨0,u*4+1,Ae⟩=Af (Aa Ab b2)/\w'.cell? ⟨0,u*4+2,Ae⟩=Af (Aa Ab b3)/\w'.cell? ⟨0,u*4+3,Ae⟩=Af (Aa Ab b4))
  (first|exact⟨f0,g0,g1,g2,v0,v1,v2,v3,u0,u1,u2,u3⟩|exact⟨Je OH f0,Je FI g0,Je FI g1,Je FI g2,Je AB v0,Je AB v1,Je AB v2,Je AB v3,Je AB u0,Je AB u1,Je AB u2,Je AB u3⟩|go_keep)
  (first
   |(go_at_call 128;(with_reducible refine(y7.out _).mono ?_);rintro e w5 ⟨rfl,db⟩;have H3:=H3.call (Hl db);have WO:=WO.below (Hl db);have f0:=Gw (Hl db) f0;have g0:=Gw (Hl db) g0;have g1:=Gw (Hl db) g1;have g2:=Gw (Hl db) g2;have v0:=Gw (Hl db) v0;have v1:=Gw (Hl db) v1;have v2:=Gw (Hl db) v2;have v3:=Gw (Hl db) v3;have u0:=Gw (Hl db) u0;have u1:=Gw (Hl db) u1;have u2:=Gw (Hl db) u2;have u3:=Gw (Hl db) u3)
   |(go_at_call 127;(with_reducible refine(HNUM.out _ WO).mono ?_);rintro e w6 ⟨rfl,bc⟩;have H3:=H3.call bc;have f0:=Gw bc f0;have g0:=Gw bc g0;have g1:=Gw bc g1;have g2:=Gw bc g2;have v0:=Gw bc v0;have v1:=Gw bc v1;have v2:=Gw bc v2;have v3:=Gw bc v3;have u0:=Gw bc u0;have u1:=Gw bc u1;have u2:=Gw bc u2;have u3:=Gw bc u3)
   |(go_at_call 126;(with_reducible refine(HLIM.out _).mono ?_);rintro e w7 ⟨rfl,dc⟩;unfold mvR Mv.v;dsimp only;have H3:=H3.call dc;obtain⟨⟨y0,y1,y2⟩,z0,z1,z2⟩:=Hg (H3.b 2);have f0:=Gw dc f0;have g0:=Gw dc g0;have g1:=Gw dc g1;have g2:=Gw dc g2;have v0:=Gw dc v0;have v1:=Gw dc v1;have v2:=Gw dc v2;have v3:=Gw dc v3;have u0:=Gw dc u0;have u1:=Gw dc u1;have u2:=Gw dc u2;have u3:=Gw dc u3)
   |fail)
 go_wp2_with fail;have H5:=((H3.set 2 0 rfl (Aa Ac rt)).set 2 1 rfl (Aa Ab rx)).set 2 2 rfl (Aa Ab ry);exact Ai (Hj rfl rfl (H5.range 2 rfl) Fi rfl Gx) rfl ⟨rfl,H5.below⟩
def Xu (k c:Int) (w:Aj) (di:0<=k):Al Dp 67 #[.agg #[Aa Ac k,c]] w (Gz (mvR (Ur (k,c))) w):=by
 obtain⟨R,hR⟩:=ey (Ur (k,c));rw[hR];have HR:=Ah hR;have H:=((Bx.start w).new #[Aa Ac k,c] 48 rfl).new #[Aa Ac 0,Aa Ab 0,Aa Ab 0] 30 (N:=w.heap.size+1) Gy;clear hR;go_in;go_upto_region 1 with fail;generalize (w.alloc _).alloc _=W at H⊢;generalize w.heap.size=N at H⊢;obtain⟨⟨a0,a1⟩,_⟩:=Hm (H.b 0);go_wp2_with fail;refine(Jm k c _).mono ?_;rintro e w2 ⟨rfl,hb⟩;have H2:=H.call hb;clear a0 a1 hb H;obtain⟨⟨a0,a1⟩,_⟩:=Hm (H2.b 0);obtain⟨⟨c0,c1,c2⟩,d0,d1,d2⟩:=Hg (H2.b 1)
 cases hL:okL k c
 ·have am:R=(mv0,1):=by rw[<-HR.out];unfold Ur;rw[hL];rfl
  rw[Qm];clear hL;go_wp2_with fail;have H3:=((H2.set 1 0 rfl (Aa Ac 0)).set 1 1 rfl (Aa Ab 0)).set 1 2 rfl (Aa Ab 0);exact Ai (Hj rfl rfl (H3.range 1 rfl) Fi rfl Gx) rfl ⟨by rw[am];rfl,H3.below⟩
 ·obtain⟨l1,l2,l3,l4⟩:=Mu.1 hL;have am:R=(ofL k c,0):=by rw[<-HR.out];unfold Ur;rw[hL];rfl
  have HF:=Ah am;rw[Lq];clear hL am;have h4:k=1∨k=2∨k=3∨k=4:=Gv;rcases h4 with rfl|rfl|rfl|rfl
  ·go_wp2_with fail;have H3:=((H2.set 1 0 rfl (Aa Ac 4)).set 1 1 rfl (Aa Ab (2*c))).set 1 2 rfl (Aa Ab 0);exact Ai (Hj rfl rfl (H3.range 1 rfl) Fi rfl Gx) rfl ⟨by rw[HF.out];rfl,H3.below⟩
  ·go_wp2_with fail;have H3:=((H2.set 1 0 rfl (Aa Ac 6)).set 1 1 rfl (Aa Ab 0)).set 1 2 rfl (Aa Ab (2*c));exact Ai (Hj rfl rfl (H3.range 1 rfl) Fi rfl Gx) rfl ⟨by rw[HF.out];rfl,H3.below⟩
  ·go_wp2_with fail;have H3:=((H2.set 1 0 rfl (Aa Ac 5)).set 1 1 rfl (Aa Ab c)).set 1 2 rfl (Aa Ab c);exact Ai (Hj rfl rfl (H3.range 1 rfl) Fi rfl Gx) rfl ⟨by rw[HF.out];rfl,H3.below⟩
  ·have wn:Ab.wrap (-c)= -c:=Cb _ Gv;go_wp2_with fail;have H3:=((H2.set 1 0 rfl (Aa Ac 7)).set 1 1 rfl (Aa Ab (-c))).set 1 2 rfl (Aa Ab c);exact Ai (Hj rfl rfl (H3.range 1 rfl) Fi rfl Gx) rfl ⟨by rw[HF.out];rfl,H3.below⟩
def Bp9 (m n:Mv) (w:Aj) (hm:m.t<=255) (hn:n.t<=255) (h:(m.ok&&n.ok)=false):
  Al Dp 71 #[.agg #[Aa Ac m.t,Aa Ab m.x,Aa Ab m.y],.agg #[Aa Ac n.t,Aa Ab n.x,Aa Ab n.y]] w (Gz (mvR (mv0,1)) w):=by
 obtain⟨t,x,y⟩:=m;obtain⟨u,p,q⟩:=n;dsimp only at hm hn⊢;unfold Mv.ok at h;dsimp only at h;have HH:=Ah h;have B1:=Ah (show 0<=(t:Int)/\(t:Int)<=255 by omega);have B2:=Ah (show 0<=(u:Int)/\(u:Int)<=255 by omega);have H:=(((Bx.start w).new #[Aa Ac t,x,y] 30 rfl).new #[Aa Ac u,p,q] 30 (N:=w.heap.size+1) Gy).new #[Aa Ac 0,Aa Ab 0,Aa Ab 0] 30 (N:=w.heap.size+2) Gy;clear h;go_in;go_upto_region 1 with fail;generalize ((w.alloc _).alloc _).alloc _=W at H⊢;generalize w.heap.size=N at H⊢;obtain⟨P,hP⟩:=ez (N+2);rw[<-hP]at H;rw[show N+1+1=P from hP.symm];clear hP;obtain⟨⟨f0,f1,f2⟩,_⟩:=Hg (H.b 0);go_wp2_with fail;refine(Jn t x y _ B1.out).mono ?_;rintro e w2 ⟨rfl,hb⟩;have H2:=H.call hb;clear f0 f1 f2 hb H;obtain⟨⟨g0,g1,g2⟩,_⟩:=Hg (H2.b 1)
 cases h1:okM t x y
 ·rw[Qm];clear h1;obtain⟨⟨c0,c1,c2⟩,d0,d1,d2⟩:=Hg (H2.b 2);go_wp2_with fail;have H3:=((H2.set 2 0 rfl (Aa Ac 0)).set 2 1 rfl (Aa Ab 0)).set 2 2 rfl (Aa Ab 0);exact Ai (Hj rfl rfl (H3.range 2 rfl) Fi rfl Gx) rfl ⟨rfl,H3.below⟩
 ·have h2:okM u p q=false:=by have:=HH.out;rw[h1]at this;simpa using this
  have HB:=Ah h2;rw[Lq];clear h1 h2;go_wp2_with fail;refine(Jn u p q _ B2.out).mono ?_;rintro e w3 ⟨rfl,hb⟩;rw[HB.out,Qm];have H3:=H2.call hb;clear g0 g1 g2 hb H2;obtain⟨⟨c0,c1,c2⟩,d0,d1,d2⟩:=Hg (H3.b 2);go_wp2_with fail;have H4:=((H3.set 2 0 rfl (Aa Ac 0)).set 2 1 rfl (Aa Ab 0)).set 2 2 rfl (Aa Ab 0);exact Ai (Hj rfl rfl (H4.range 2 rfl) Fi rfl Gx) rfl ⟨rfl,H4.below⟩
def bM (m n:Mv) (w:Aj) (hm:m.t<=255) (hn:n.t<=255) (hT:Tn w):
  Al Dp 71 #[.agg #[Aa Ac m.t,Aa Ab m.x,Aa Ab m.y],.agg #[Aa Ac n.t,Aa Ab n.x,Aa Ab n.y]] w (Gz (mvR (Lc m n)) w):=by
 unfold Lc
 cases h:(m.ok&&n.ok)
 ·exact Bp9 m n w hm hn h
 ·obtain⟨h1,h2⟩:=Bool.and_eq_true_iff.1 h;exact Bq0 m n w h1 h2 hT
def ptR (x y e:Int):Ak:= .tuple #[.agg #[x,y],e]
def qR (m:Mv) (p q:Int) (w:Aj) (hm:m.ok=true) (hp: -10000<=p/\p<=10000) (hq: -10000<=q/\q<=10000) (hT:Tn w):
  Al Dp 228 #[.agg #[Aa Ac m.t,Aa Ab m.x,Aa Ab m.y],.agg #[p,q]] w (Gz (ptR (Iy m p q).1 (Iy m p q).2 0) w):=by
 obtain⟨⟨X,Y⟩,hR⟩:=ey (Iy m p q);rw[hR];dsimp only;obtain⟨m1,⟨m2,m3⟩,⟨m4,m5⟩,_⟩:=Mv.ok_iff.1 hm;obtain⟨t,x,y⟩:=m;dsimp only at m1 m2 m3 m4 m5⊢;have JM:=λw=>mD t p q w Gv Gv;obtain⟨⟨V3,V4⟩,V5,V6⟩:=fO t (x:=p) (y:=q) (B:=10000) hp hq;unfold Iy at hR;dsimp only at hR;obtain⟨⟨sx,sy⟩,hs⟩:=ey (Ii (mat t) p q);rw[hs]at JM hR V3 V4 V5 V6;dsimp only at JM hR V3 V4 V5 V6;obtain⟨rfl,rfl⟩:X=sx+2*x/\Y=sy+2*y:=by simp at hR;omega
 obtain⟨⟨a1,a2,a3,a4⟩,bi⟩:=ey (mat t);have LP:=λ(w':Aj) (h:Tn w')=>h.at' t m1;rw[bi]at JM LP;dsimp only at LP JM;have e1:okM t x y=true:=hm;have e2:okP p q=true:=Wh.2 Gv;have e3:okP (sx+2*x) (sy+2*y)=true:=Wh.2 Gv;have E1:=Ah e1;have E2:=Ah e2;have E3:=Ah e3;have BD:=Ah JM;have KT:=Ah LP;have B1:=Ah (show 0<=(t:Int)/\(t:Int)<=255 by omega);have q1:(t:Int)<8:=Gv;have H:=(((Bx.start w).new #[Aa Ac t,x,y] 30 rfl).new #[p,q] 282 (N:=w.heap.size+1) Gy).new #[Aa Ab 0,Aa Ab 0] 282 (N:=w.heap.size+2) Gy;have HT:=Ah hT;clear hR JM LP e1 e2 e3 hm hs bi hT;go_in;go_upto_region 1 with fail;generalize ((w.alloc _).alloc _).alloc _=W at H⊢;generalize w.heap.size=N at H⊢;obtain⟨P,hP⟩:=ez (N+2);rw[<-hP]at H;rw[show N+1+1=P from hP.symm];clear hP;obtain⟨⟨f0,f1,f2⟩,_⟩:=Hg (H.b 0);go_wp2_with fail;refine(Jn t x y _ B1.out).mono ?_;rintro e w2 ⟨rfl,hb⟩;rw[E1.out,Lq];have H2:=H.call hb;clear f0 f1 f2 hb H;obtain⟨⟨g0,g1⟩,_⟩:=Hm (H2.b 1);go_wp2_with fail;refine(Ol p q _).mono ?_;rintro e w3 ⟨rfl,hb⟩;rw[E2.out,Lq];have H3:=H2.call hb;clear g0 g1 hb H2;obtain⟨⟨f0,f1,f2⟩,_⟩:=Hg (H3.b 0);obtain⟨⟨g0,g1⟩,_⟩:=Hm (H3.b 1);have HT3:=HT.out.below H3.below;obtain⟨v0,v1,v2,v3⟩:=KT.out _ HT3;go_upto_region 3 with fail
 go_region_held3 (λw'=>w'.cell? ⟨N,0,Ae⟩=Af (Aa Ac t)/\w'.cell? ⟨N+1,0,Ae⟩=Af (Aa Ab p)/\w'.cell? ⟨N+1,1,Ae⟩=Af (Aa Ab q)/\w'.cell? ⟨0,t*4,Ae⟩=Af (Aa Ab a1)/\w'.cell? ⟨0,t*4+1,Ae⟩=Af (Aa Ab a2)/\w'.cell? ⟨0,t*4+2,Ae⟩=Af (Aa Ab a3)/\w'.cell? ⟨0,t*4+3,Ae⟩=Af (Aa Ab a4))
  (first|exact⟨f0,g0,g1,v0,v1,v2,v3⟩|go_keep)
  (first|(go_at_call 125;(with_reducible refine(BD.out _).mono ?_);rintro e w4 ⟨rfl,da⟩;have H3:=H3.call (Hl da);have f0:=Gw (Hl da) f0;have g0:=Gw (Hl da) g0;have g1:=Gw (Hl da) g1;have v0:=Gw (Hl da) v0;have v1:=Gw (Hl da) v1;have v2:=Gw (Hl da) v2;have v3:=Gw (Hl da) v3)|fail)
 clear f0 f1 f2 g0 g1 v0 v1 v2 v3 HT3;obtain⟨⟨f0,f1,f2⟩,_⟩:=Hg (H3.b 0);have H4:=H3.new #[Aa Ab (sx+2*x),Aa Ab (sy+2*y)] 282 rfl;have k1:=Cb (2*x) Gv;have k2:=Cb (2*y) Gv;have k3:=Cb (sx+2*x) Gv;have k4:=Cb (sy+2*y) Gv;go_wp2_with fail;refine(Ol _ _ _).mono ?_;rintro e w5 ⟨rfl,hb⟩;rw[E3.out,Lq];have H5:=H4.call hb;clear f0 f1 f2 hb;obtain⟨⟨c0,c1⟩,d0,d1⟩:=Hm (H5.b 2);obtain⟨⟨b0,b1⟩,_⟩:=Hm (H5.b 3);go_wp2_with fail;have H6:=(H5.set 2 0 rfl (Aa Ab (sx+2*x))).set 2 1 rfl (Aa Ab (sy+2*y));exact Ai (Hj rfl rfl (H6.range 2 rfl) Tryz.underlying282 rfl Gx) rfl ⟨rfl,H6.below⟩
def My (a b:Int) (w:Aj):Al Dp 35 #[a,b] w (Gz (Aa Ab (Ik a b)) w):=by
 obtain⟨R,hR⟩:=ey (Ik a b);rw[hR];have HR:=Ah hR;clear hR;go_in;go_wp2_with (go_in)
 all_goals go_ret
 all_goals refine⟨Iw ?_,Ag _ _⟩
 all_goals rw[<-HR.out]
 all_goals first|rw[Tv Gv]|rw[kX Gv]|rw[kW Gv Gv]
def Np (p q r:Int):Int:=if p≠0 then p else if q≠0 then q else r
def vT (g cp:Nat) (a0 b0 a1 b1 a2 b2:Int) (w:Aj) (h:w.rangeAt g 0 [Aa Ab a0,Aa Ab b0,Aa Ab a1,Aa Ab b1,Aa Ab a2,Aa Ab b2]):
  Al Dp 166 #[Ad (Af ⟨g,0,Ae⟩) 3 cp] w (Gz (Aa Ab (Np (Ik a0 b0) (Ik a1 b1) (Ik a2 b2))) w):=by
 obtain⟨p,hp⟩:=ey (Ik a0 b0);obtain⟨q,hq⟩:=ey (Ik a1 b1);obtain⟨r,hr⟩:=ey (Ik a2 b2);rw[hp,hq,hr];have P:=Ah hp;have Q:=Ah hq;have R:=Ah hr;have c0:=h 0 _ rfl;have c1:=h 1 _ rfl;have c2:=h 2 _ rfl;have c3:=h 3 _ rfl;have c4:=h 4 _ rfl;have c5:=h 5 _ rfl;simp only[Nat.reduceAdd]at c0 c1 c2 c3 c4 c5;have zq:g<w.heap.size:=World.block_lt_of_cell? w ⟨g,0,Ae⟩ c0;clear hp hq hr h;go_in;go_wp2
 go_loopw [8] (λi wr=>∃k:Nat,k<=3/\i= Aa Ab k/\Below w.heap.size w wr/\(1<=k->p=0)/\(2<=k->q=0)/\(k=3->r=0)) (λi _=>3-(intOf i).toNat)
 case atStart=>exact⟨0,Gv,rfl,Ag _ _,Gv,Gv,Gv⟩
 obtain⟨k,hk,rfl,hb,h1,h2,h3⟩:=hrel;have c0:=Gw hb c0;have c1:=Gw hb c1;have c2:=Gw hb c2;have c3:=Gw hb c3;have c4:=Gw hb c4;have c5:=Gw hb c5;have zq:g<wr.heap.size:=Br zq hb.size;have hs:=hb.size;have h4:k=0∨k=1∨k=2∨k=3:=Gv;rcases h4 with rfl|rfl|rfl|rfl
 ·as_aux_lemma=>
   by_cases hz:p=0
   ·go_wp2_with fail;refine(My a0 b0 _).mono ?_;rintro e w2 ⟨rfl,aj⟩;rw[P.out];have bh:Below w.heap.size w w2:=(hb.alloc hs _).trans (aj.mono Hv);have FT:(p != 0)=false:=by simpa using hz
    go_wp2;exact⟨⟨1,Gv,rfl,bh,λ_=>hz,Gv,Gv⟩,by simp[intOf]⟩
   ·go_wp2_with fail;refine(My a0 b0 _).mono ?_;rintro e w2 ⟨rfl,aj⟩;rw[P.out];have bh:Below w.heap.size w w2:=(hb.alloc hs _).trans (aj.mono Hv);have FT:(p != 0)=true:=by simpa using hz
    go_wp2;go_ret;exact⟨Iw (by unfold Np;rw[Hc hz]),bh⟩
 ·as_aux_lemma=>
   have mu:=h1 Gv;by_cases hz:q=0
   ·go_wp2_with fail;refine(My a1 b1 _).mono ?_;rintro e w2 ⟨rfl,aj⟩;rw[Q.out];have bh:Below w.heap.size w w2:=(hb.alloc hs _).trans (aj.mono Hv);have FT:(q != 0)=false:=by simpa using hz
    go_wp2;exact⟨⟨2,Gv,rfl,bh,λ_=>mu,λ_=>hz,Gv⟩,by simp[intOf]⟩
   ·go_wp2_with fail;refine(My a1 b1 _).mono ?_;rintro e w2 ⟨rfl,aj⟩;rw[Q.out];have bh:Below w.heap.size w w2:=(hb.alloc hs _).trans (aj.mono Hv);have FT:(q != 0)=true:=by simpa using hz
    go_wp2;go_ret;exact⟨Iw (by unfold Np;rw[Ha (by simpa using mu),Hc hz]),bh⟩
 ·as_aux_lemma=>
   have mu:=h1 Gv;have IM:=h2 Gv;by_cases hz:r=0
   ·go_wp2_with fail;refine(My a2 b2 _).mono ?_;rintro e w2 ⟨rfl,aj⟩;rw[R.out];have bh:Below w.heap.size w w2:=(hb.alloc hs _).trans (aj.mono Hv);have FT:(r != 0)=false:=by simpa using hz
    go_wp2;exact⟨⟨3,Gv,rfl,bh,λ_=>mu,λ_=>IM,λ_=>hz⟩,by simp[intOf]⟩
   ·go_wp2_with fail;refine(My a2 b2 _).mono ?_;rintro e w2 ⟨rfl,aj⟩;rw[R.out];have bh:Below w.heap.size w w2:=(hb.alloc hs _).trans (aj.mono Hv);have FT:(r != 0)=true:=by simpa using hz
    go_wp2;go_ret;exact⟨Iw (by unfold Np;rw[Ha (by simpa using mu),Ha (by simpa using IM)]),bh⟩
 ·as_aux_lemma=>
   have mu:=h1 Gv;have IM:=h2 Gv;have VC:=h3 rfl;go_wp2;go_ret;exact⟨Iw (by first|rfl|simp[Np,mu,IM,VC]),hb⟩
def bW (c d:Cl) (w:Aj) (hc:c.q<=255) (hd:d.q<=255):Al Dp 110 #[.agg #[Aa Ab c.x,Aa Ab c.y,Aa Ac c.q],.agg #[Aa Ab d.x,Aa Ab d.y,Aa Ac d.q]] w (Gz (Aa Ab (Ka c d)) w):=by
 have am:Ka c d=Np (Ik c.y d.y) (Ik c.x d.x) (Ik c.q d.q):=rfl;rw[am];obtain⟨x,y,q⟩:=c;obtain⟨x',y',q'⟩:=d;dsimp only at hc hd⊢;have k1:Ab.wrap (q:Int)=q:=Cb _ Gv;have k2:Ab.wrap (q':Int)=q':=Cb _ Gv;have H:=((Bx.start w).new #[x,y,Aa Ac q] 90 rfl).new #[x',y',Aa Ac q'] 90 (N:=w.heap.size+1) Gy;clear am;go_in;go_upto_region 1 with fail;generalize (w.alloc _).alloc _=W at H⊢;generalize w.heap.size=N at H⊢;obtain⟨⟨a0,a1,a2⟩,_⟩:=Hg (H.b 0);obtain⟨⟨b0,b1,b2⟩,_⟩:=Hg (H.b 1);go_wp2_with fail;have H3:=H.new #[y,y',x,x',q,q'] 56 rfl;refine(vT W.heap.size 3 y y' x x' q q' _ (H3.range 2 rfl)).mono ?_;rintro e w2 ⟨rfl,hb⟩;have H4:=H3.call hb;clear a0 a1 a2 b0 b1 b2;go_wp2;go_ret;exact⟨rfl,H4.below⟩
def vB (c:Cl) (w:Aj) (hx: -5000<=c.x/\c.x<=5000) (hy: -5000<=c.y/\c.y<=5000):Al Dp 227 #[.agg #[Aa Ab c.x,Aa Ab c.y,Aa Ac c.q]] w (Gz (.agg #[Aa Ab (2*c.x+1),Aa Ab (2*c.y+1)]) w):=by
 obtain⟨x,y,q⟩:=c;dsimp only at hx hy⊢;have k1:=Cb (2*x) Gv;have k2:=Cb (2*y) Gv;have k3:=Cb (2*x+1) Gv;have k4:=Cb (2*y+1) Gv;have H:=((Bx.start w).new #[x,y,Aa Ac q] 90 rfl).new #[Aa Ab 0,Aa Ab 0] 282 (N:=w.heap.size+1) Gy;go_in;go_upto_region 1 with fail;generalize (w.alloc _).alloc _=W at H⊢;generalize w.heap.size=N at H⊢;obtain⟨⟨a0,a1,a2⟩,_⟩:=Hg (H.b 0);obtain⟨⟨b0,b1⟩,c0,c1⟩:=Hm (H.b 1);go_wp2_with fail;have H4:=(H.set 1 0 rfl (Aa Ab (2*x+1))).set 1 1 rfl (Aa Ab (2*y+1));exact Ai (Lv rfl rfl (H4.range 1 rfl) Tryz.underlying282 rfl Gx) rfl ⟨rfl,H4.below⟩
structure Bd (w w':Aj):Prop where
 b:Below w.heap.size w w'
 d:w.drawn<=w'.drawn
def Bd.refl (w:Aj):Bd w w:=⟨Ag _ _,Am _⟩
def Bd.trans {a b c:Aj} (h:Bd a b) (k:Bd b c):Bd a c:=⟨h.b.trans (k.b.mono h.b.size),Bt h.d k.d⟩
def Bd.alloc {a b:Aj} (h:Bd a b) (o:Obj):Bd a (b.alloc o):=⟨h.b.alloc h.b.size o,h.d⟩
def Bd.drew {a b:Aj} (h:Bd a b):Bd a b.drew:=⟨h.b.drew,Nat.le_succ_of_le h.d⟩
def Bd.grow (h:Bd w w'):∃q os,w'=Go.Sort.grow (w.drewN q) os:=by
 obtain⟨p,hp⟩:=regrown_of_below h.b;have hd:=h.d;refine⟨w'.drawn-w.drawn,p.os,?_⟩;have e:p.d=w'.drawn:=by rw[hp];rfl
 have e2:w.drewN (w'.drawn-w.drawn)=redrawn w p.d:=by
  unfold redrawn;rw[e];show({w with drawn:=w.drawn+(w'.drawn-w.drawn)}:Aj)=_
  congr 1
  omega
 rw[e2];exact hp
def Uw (v:Ak) (w:Aj) (e:Ending) (w':Aj):Prop:=e= .returned v/\Bd w w'
def Nf (a b:Int) (w:Aj):Al Dp 35 #[a,b] w (Uw (Aa Ab (Ik a b)) w):=by
 obtain⟨R,hR⟩:=ey (Ik a b);rw[hR];have HR:=Ah hR;clear hR;go_in;go_wp2_with (go_in)
 all_goals go_ret
 all_goals refine⟨Iw ?_,Bd.refl _⟩
 all_goals rw[<-HR.out]
 all_goals first|rw[Tv Gv]|rw[kX Gv]|rw[kW Gv Gv]
def Ai4 (g cp:Nat) (a0 b0 a1 b1 a2 b2:Int) (w:Aj) (h:w.rangeAt g 0 [Aa Ab a0,Aa Ab b0,Aa Ab a1,Aa Ab b1,Aa Ab a2,Aa Ab b2]):
  Al Dp 166 #[Ad (Af ⟨g,0,Ae⟩) 3 cp] w (Uw (Aa Ab (Np (Ik a0 b0) (Ik a1 b1) (Ik a2 b2))) w):=by
 obtain⟨p,hp⟩:=ey (Ik a0 b0);obtain⟨q,hq⟩:=ey (Ik a1 b1);obtain⟨r,hr⟩:=ey (Ik a2 b2);rw[hp,hq,hr];have P:=Ah hp;have Q:=Ah hq;have R:=Ah hr;have c0:=h 0 _ rfl;have c1:=h 1 _ rfl;have c2:=h 2 _ rfl;have c3:=h 3 _ rfl;have c4:=h 4 _ rfl;have c5:=h 5 _ rfl;simp only[Nat.reduceAdd]at c0 c1 c2 c3 c4 c5;have zq:g<w.heap.size:=World.block_lt_of_cell? w ⟨g,0,Ae⟩ c0;clear hp hq hr h;go_in;go_wp2
 go_loopw [8] (λi wr=>∃k:Nat,k<=3/\i= Aa Ab k/\Bd w wr/\(1<=k->p=0)/\(2<=k->q=0)/\(k=3->r=0)) (λi _=>3-(intOf i).toNat)
 case atStart=>exact⟨0,Gv,rfl,Bd.refl _,Gv,Gv,Gv⟩
 obtain⟨k,hk,rfl,dh,h1,h2,h3⟩:=hrel;have hb:=dh.b;have c0:=Gw hb c0;have c1:=Gw hb c1;have c2:=Gw hb c2;have c3:=Gw hb c3;have c4:=Gw hb c4;have c5:=Gw hb c5;have zq:g<wr.heap.size:=Br zq hb.size;have hs:=hb.size;have h4:k=0∨k=1∨k=2∨k=3:=Gv;rcases h4 with rfl|rfl|rfl|rfl
 ·as_aux_lemma=>
   by_cases hz:p=0
   ·go_wp2_with fail;refine(Nf a0 b0 _).mono ?_;rintro e w2 ⟨rfl,aj⟩;rw[P.out];have bh:Bd w w2:=(dh.alloc _).trans aj;have FT:(p != 0)=false:=by simpa using hz
    go_wp2;exact⟨⟨1,Gv,rfl,bh,λ_=>hz,Gv,Gv⟩,by simp[intOf]⟩
   ·go_wp2_with fail;refine(Nf a0 b0 _).mono ?_;rintro e w2 ⟨rfl,aj⟩;rw[P.out];have bh:Bd w w2:=(dh.alloc _).trans aj;have FT:(p != 0)=true:=by simpa using hz
    go_wp2;go_ret;exact⟨Iw (by unfold Np;rw[Hc hz]),bh⟩
 ·as_aux_lemma=>
   have mu:=h1 Gv;by_cases hz:q=0
   ·go_wp2_with fail;refine(Nf a1 b1 _).mono ?_;rintro e w2 ⟨rfl,aj⟩;rw[Q.out];have bh:Bd w w2:=(dh.alloc _).trans aj;have FT:(q != 0)=false:=by simpa using hz
    go_wp2;exact⟨⟨2,Gv,rfl,bh,λ_=>mu,λ_=>hz,Gv⟩,by simp[intOf]⟩
   ·go_wp2_with fail;refine(Nf a1 b1 _).mono ?_;rintro e w2 ⟨rfl,aj⟩;rw[Q.out];have bh:Bd w w2:=(dh.alloc _).trans aj;have FT:(q != 0)=true:=by simpa using hz
    go_wp2;go_ret;exact⟨Iw (by unfold Np;rw[Ha (by simpa using mu),Hc hz]),bh⟩
 ·as_aux_lemma=>
   have mu:=h1 Gv;have IM:=h2 Gv;by_cases hz:r=0
   ·go_wp2_with fail;refine(Nf a2 b2 _).mono ?_;rintro e w2 ⟨rfl,aj⟩;rw[R.out];have bh:Bd w w2:=(dh.alloc _).trans aj;have FT:(r != 0)=false:=by simpa using hz
    go_wp2;exact⟨⟨3,Gv,rfl,bh,λ_=>mu,λ_=>IM,λ_=>hz⟩,by simp[intOf]⟩
   ·go_wp2_with fail;refine(Nf a2 b2 _).mono ?_;rintro e w2 ⟨rfl,aj⟩;rw[R.out];have bh:Bd w w2:=(dh.alloc _).trans aj;have FT:(r != 0)=true:=by simpa using hz
    go_wp2;go_ret;exact⟨Iw (by unfold Np;rw[Ha (by simpa using mu),Ha (by simpa using IM)]),bh⟩
 ·as_aux_lemma=>
   have mu:=h1 Gv;have IM:=h2 Gv;have VC:=h3 rfl;go_wp2;go_ret;exact⟨Iw (by first|rfl|simp[Np,mu,IM,VC]),dh⟩
def Tx (c d:Cl) (w:Aj) (hc:c.q<=255) (hd:d.q<=255):Al Dp 110 #[.agg #[Aa Ab c.x,Aa Ab c.y,Aa Ac c.q],.agg #[Aa Ab d.x,Aa Ab d.y,Aa Ac d.q]] w (Uw (Aa Ab (Ka c d)) w):=by
 have am:Ka c d=Np (Ik c.y d.y) (Ik c.x d.x) (Ik c.q d.q):=rfl;rw[am];obtain⟨x,y,q⟩:=c;obtain⟨x',y',q'⟩:=d;dsimp only at hc hd⊢;have k1:Ab.wrap (q:Int)=q:=Cb _ Gv;have k2:Ab.wrap (q':Int)=q':=Cb _ Gv;have dh:Bd w ((w.alloc (.cells #[x,y,Aa Ac q] 90)).alloc (.cells #[x',y',Aa Ac q'] 90)):=((Bd.refl w).alloc _).alloc _;have H:=((Bx.start w).new #[x,y,Aa Ac q] 90 rfl).new #[x',y',Aa Ac q'] 90 (N:=w.heap.size+1) Gy;clear am;go_in;go_upto_region 1 with fail;generalize (w.alloc _).alloc _=W at H dh⊢;generalize w.heap.size=N at H⊢;obtain⟨⟨a0,a1,a2⟩,_⟩:=Hg (H.b 0);obtain⟨⟨b0,b1,b2⟩,_⟩:=Hg (H.b 1);go_wp2_with fail;have H3:=H.new #[y,y',x,x',q,q'] 56 rfl;refine(Ai4 W.heap.size 3 y y' x x' q q' _ (H3.range 2 rfl)).mono ?_;rintro e w2 ⟨rfl,hb⟩;have hbd4:=(dh.alloc (.cells #[y,y',x,x',q,q'] 56)).trans hb;clear a0 a1 a2 b0 b1 b2;go_wp2;go_ret;exact⟨rfl,hbd4⟩
def Ig (a:Option Cj) (l c:Nat) (h:Tryz.prog.underlying t=Af (.slice e)) (w:Aj):(binOp .eql t (Ad a l c) (Ad Ae 0 0)).run Dp w= .ok (.bool a.isNone) w:=by
 simp only[binOp];simp[run_equal_slice_nil w t e a l c h]
def AOk (A:Option Cj) (n c:Nat):Prop:=(A=Ae/\n=0/\c=0)∨∃b o,A=Af ⟨b,o,Ae⟩
def Mi {base:Nat} {v:Ak} (h:w.ownsRow base e sz v n xs):∃A c,v= Ad A n c/\AOk A n c/\n<=c/\c<=maxLen:=by
 rcases h.2 with⟨rfl,h0⟩|⟨g,cap,cur,r1,_,_,r2,r3,_⟩
 ·exact⟨Ae,0,by rw[h0],.inl ⟨rfl,h0,rfl⟩,Gv,by simp[maxLen]⟩
 ·exact⟨_,cap,r1,.inr ⟨g,0,rfl⟩,r2,r3⟩
def Nq:(Tryz.prog.info? 3).map (λi=>(i.zero,i.size,i.bytes))=Af (Af (Aa Ab 0),1,8):=Gx
def Yn (A:Option Cj) (n c:Nat) (w:Aj) (h:n<=c) (EJ:c<=maxLen):
  Al Dp 49 #[Ad A n c] w (Gz (Ad A n n) w):=by
 unfold maxLen at EJ;go_in
 go_wp2
 go_ret;exact⟨rfl,Ag _ _⟩
def Va (A:Option Cj) (n c:Nat) (xs:List Ak) (w:Aj) (hA:AOk A n c) (h:Rd w A 1 n xs) (h1:∀u∈xs,u.oneCell'=true) (hn:n<=1000000):
  Al Dp 79 #[Ad A n c] w (Nt 3 1 n xs w):=by
 rcases hA with⟨rfl,rfl,rfl⟩|⟨b,o,rfl⟩
 ·have hx:xs=[]:=by have:=h.1;simpa using this
  subst hx;clear hn h h1;have heq:=Ig Ae 0 0 Dl;go_in;go_wp2;go_ret;exact⟨_,rfl,⟨rfl,.inl ⟨rfl,rfl⟩⟩,Ag _ _⟩
 ·obtain⟨i0,hi,hz,hs,hb⟩:=info_parts Nq;have aa:(w.alloc (.cells #[] 3)).ownsRow w.heap.size 3 1 (Ad (Af ⟨w.heap.size,0,Ae⟩) 0 0) 0 []:=Pu (Am _) (Ca w _) (Am _) (by simp[maxLen]) rfl;obtain⟨v',w',hr,h2,h3⟩:=Hw (P:=Dp) (w.alloc (.cells #[] 3)) w.heap.size 38 38 3 i0 _ 1 8 Dl hi hz hs hb rfl He _ 0 [] aa (Af ⟨b,o,Ae⟩) n c xs h1 (h.alloc _) (λh=>by cases h) Gv He Gy;rw[Bu,Eu]at h2;have de:Below w.heap.size w w':=((Ag _ _).alloc (Am _) _).grown h3 Gy (λk hk=>by simp[Dx]at hk;omega);clear aa h3 hi hz hs hb h1 h hn;have heq:=Ig (Af ⟨b,o,Ae⟩) n c Dl;go_in;go_wp2_with (at_builtin;refine As _ rfl _ _ _ _ rfl _ _ rfl rfl _ _ hr ?_);go_ret;exact⟨v',rfl,h2,de⟩
def Au4:(Tryz.prog.info? 192).map (λi=>(i.zero,i.size,i.bytes))=Af (Af (.agg #[Aa Ab 0,Aa Ac 0,Aa Ac 0]),3,16):=Gx
def Bw0 (A:Option Cj) (n c:Nat) (w:Aj) (h:n<=c) (EJ:c<=maxLen):
  Al Dp 135 #[Ad A n c] w (Gz (Ad A n n) w):=by
 unfold maxLen at EJ;go_in
 go_wp2
 go_ret;exact⟨rfl,Ag _ _⟩
def yL (A:Option Cj) (n c:Nat) (xs:List Ak) (w:Aj) (hA:AOk A n c) (h:Rd w A 3 n xs) (h1:∀u∈xs,u.oneCell'=true) (hn:n<=1000000):
  Al Dp 130 #[Ad A n c] w (Nt 192 3 n xs w):=by
 rcases hA with⟨rfl,rfl,rfl⟩|⟨b,o,rfl⟩
 ·have hx:xs=[]:=by have:=h.1;simpa using this
  subst hx;clear hn h h1;have heq:=Ig Ae 0 0 Tryz.underlying26;go_in;go_wp2;go_ret;exact⟨_,rfl,⟨rfl,.inl ⟨rfl,rfl⟩⟩,Ag _ _⟩
 ·obtain⟨i0,hi,hz,hs,hb⟩:=info_parts Au4;have aa:(w.alloc (.cells #[] 192)).ownsRow w.heap.size 192 3 (Ad (Af ⟨w.heap.size,0,Ae⟩) 0 0) 0 []:=Pu (Am _) (Ca w _) (Am _) (by simp[maxLen]) rfl;obtain⟨v',w',hr,h2,h3⟩:=Hw (P:=Dp) (w.alloc (.cells #[] 192)) w.heap.size 26 26 192 i0 _ 3 16 Tryz.underlying26 hi hz hs hb rfl He _ 0 [] aa (Af ⟨b,o,Ae⟩) n c xs h1 (h.alloc _) (λh=>by cases h) Gv He Gy;rw[Bu,Eu]at h2;have de:Below w.heap.size w w':=((Ag _ _).alloc (Am _) _).grown h3 Gy (λk hk=>by simp[Dx]at hk;omega);clear aa h3 hi hz hs hb h1 h hn;have heq:=Ig (Af ⟨b,o,Ae⟩) n c Tryz.underlying26;go_in;go_wp2_with (at_builtin;refine As _ rfl _ _ _ _ rfl _ _ rfl rfl _ _ hr ?_);go_ret;exact⟨v',rfl,h2,de⟩
def Bj8:(Tryz.prog.info? 92).map (λi=>(i.zero,i.size,i.bytes))=Af (Af (.agg #[Aa Ab 0,Aa Ab 0,Aa Ac 0,Ad Ae 0 0]),4,48):=Gx
def kV (A:Option Cj) (n c:Nat) (w:Aj) (h:n<=c) (EJ:c<=maxLen):
  Al Dp 111 #[Ad A n c] w (Gz (Ad A n n) w):=by
 unfold maxLen at EJ;go_in
 go_wp2
 go_ret;exact⟨rfl,Ag _ _⟩
def Ar8 (A:Option Cj) (n c:Nat) (xs:List Ak) (w:Aj) (hA:AOk A n c) (h:Rd w A 4 n xs) (h1:∀u∈xs,u.oneCell'=true) (hn:n<=1000000):
  Al Dp 112 #[Ad A n c] w (Nt 92 4 n xs w):=by
 rcases hA with⟨rfl,rfl,rfl⟩|⟨b,o,rfl⟩
 ·have hx:xs=[]:=by have:=h.1;simpa using this
  subst hx;clear hn h h1;have heq:=Ig Ae 0 0 Tryz.underlying31;go_in;go_wp2;go_ret;exact⟨_,rfl,⟨rfl,.inl ⟨rfl,rfl⟩⟩,Ag _ _⟩
 ·obtain⟨i0,hi,hz,hs,hb⟩:=info_parts Bj8;have aa:(w.alloc (.cells #[] 92)).ownsRow w.heap.size 92 4 (Ad (Af ⟨w.heap.size,0,Ae⟩) 0 0) 0 []:=Pu (Am _) (Ca w _) (Am _) (by simp[maxLen]) rfl;obtain⟨v',w',hr,h2,h3⟩:=Hw (P:=Dp) (w.alloc (.cells #[] 92)) w.heap.size 31 31 92 i0 _ 4 48 Tryz.underlying31 hi hz hs hb rfl He _ 0 [] aa (Af ⟨b,o,Ae⟩) n c xs h1 (h.alloc _) (λh=>by cases h) Gv He Gy;rw[Bu,Eu]at h2;have de:Below w.heap.size w w':=((Ag _ _).alloc (Am _) _).grown h3 Gy (λk hk=>by simp[Dx]at hk;omega);clear aa h3 hi hz hs hb h1 h hn;have heq:=Ig (Af ⟨b,o,Ae⟩) n c Tryz.underlying31;go_in;go_wp2_with (at_builtin;refine As _ rfl _ _ _ _ rfl _ _ rfl rfl _ _ hr ?_);go_ret;exact⟨v',rfl,h2,de⟩
def pI:(Tryz.prog.info? 377).map (λi=>(i.zero,i.size,i.bytes))=Af (Af (.agg #[Aa Ab 0,Aa Ab 0]),2,16):=Gx
def Ar6 (A:Option Cj) (n c:Nat) (w:Aj) (h:n<=c) (EJ:c<=maxLen):
  Al Dp 253 #[Ad A n c] w (Gz (Ad A n n) w):=by
 unfold maxLen at EJ;go_in
 go_wp2
 go_ret;exact⟨rfl,Ag _ _⟩
def Ad6 (A:Option Cj) (n c:Nat) (xs:List Ak) (w:Aj) (hA:AOk A n c) (h:Rd w A 2 n xs) (h1:∀u∈xs,u.oneCell'=true) (hn:n<=1000000):
  Al Dp 254 #[Ad A n c] w (Nt 377 2 n xs w):=by
 rcases hA with⟨rfl,rfl,rfl⟩|⟨b,o,rfl⟩
 ·have hx:xs=[]:=by have:=h.1;simpa using this
  subst hx;clear hn h h1;have heq:=Ig Ae 0 0 Tryz.underlying260;go_in;go_wp2;go_ret;exact⟨_,rfl,⟨rfl,.inl ⟨rfl,rfl⟩⟩,Ag _ _⟩
 ·obtain⟨i0,hi,hz,hs,hb⟩:=info_parts pI;have aa:(w.alloc (.cells #[] 377)).ownsRow w.heap.size 377 2 (Ad (Af ⟨w.heap.size,0,Ae⟩) 0 0) 0 []:=Pu (Am _) (Ca w _) (Am _) (by simp[maxLen]) rfl;obtain⟨v',w',hr,h2,h3⟩:=Hw (P:=Dp) (w.alloc (.cells #[] 377)) w.heap.size 260 260 377 i0 _ 2 16 Tryz.underlying260 hi hz hs hb rfl He _ 0 [] aa (Af ⟨b,o,Ae⟩) n c xs h1 (h.alloc _) (λh=>by cases h) Gv He Gy;rw[Bu,Eu]at h2;have de:Below w.heap.size w w':=((Ag _ _).alloc (Am _) _).grown h3 Gy (λk hk=>by simp[Dx]at hk;omega);clear aa h3 hi hz hs hb h1 h hn;have heq:=Ig (Af ⟨b,o,Ae⟩) n c Tryz.underlying260;go_in;go_wp2_with (at_builtin;refine As _ rfl _ _ _ _ rfl _ _ rfl rfl _ _ hr ?_);go_ret;exact⟨v',rfl,h2,de⟩
def pH:(Tryz.prog.info? 266).map (λi=>(i.zero,i.size,i.bytes))=Af (Af (.agg #[Aa Ac 0,Aa Ab 0,Aa Ab 0]),3,24):=Gx
def Ar5 (A:Option Cj) (n c:Nat) (w:Aj) (h:n<=c) (EJ:c<=maxLen):
  Al Dp 255 #[Ad A n c] w (Gz (Ad A n n) w):=by
 unfold maxLen at EJ;go_in
 go_wp2
 go_ret;exact⟨rfl,Ag _ _⟩
def Ad5 (A:Option Cj) (n c:Nat) (xs:List Ak) (w:Aj) (hA:AOk A n c) (h:Rd w A 3 n xs) (h1:∀u∈xs,u.oneCell'=true) (hn:n<=1000000):
  Al Dp 256 #[Ad A n c] w (Nt 266 3 n xs w):=by
 rcases hA with⟨rfl,rfl,rfl⟩|⟨b,o,rfl⟩
 ·have hx:xs=[]:=by have:=h.1;simpa using this
  subst hx;clear hn h h1;have heq:=Ig Ae 0 0 Tryz.underlying261;go_in;go_wp2;go_ret;exact⟨_,rfl,⟨rfl,.inl ⟨rfl,rfl⟩⟩,Ag _ _⟩
 ·obtain⟨i0,hi,hz,hs,hb⟩:=info_parts pH;have aa:(w.alloc (.cells #[] 266)).ownsRow w.heap.size 266 3 (Ad (Af ⟨w.heap.size,0,Ae⟩) 0 0) 0 []:=Pu (Am _) (Ca w _) (Am _) (by simp[maxLen]) rfl;obtain⟨v',w',hr,h2,h3⟩:=Hw (P:=Dp) (w.alloc (.cells #[] 266)) w.heap.size 261 261 266 i0 _ 3 24 Tryz.underlying261 hi hz hs hb rfl He _ 0 [] aa (Af ⟨b,o,Ae⟩) n c xs h1 (h.alloc _) (λh=>by cases h) Gv He Gy;rw[Bu,Eu]at h2;have de:Below w.heap.size w w':=((Ag _ _).alloc (Am _) _).grown h3 Gy (λk hk=>by simp[Dx]at hk;omega);clear aa h3 hi hz hs hb h1 h hn;have heq:=Ig (Af ⟨b,o,Ae⟩) n c Tryz.underlying261;go_in;go_wp2_with (at_builtin;refine As _ rfl _ _ _ _ rfl _ _ rfl rfl _ _ hr ?_);go_ret;exact⟨v',rfl,h2,de⟩
def Ih (l:List Nat):List Ak:=l.map λ(i:Nat)=>Value.int .i64 (i:Int)
def Lr (l:List Nat):(Ih l).length=l.length:=by simp[Ih]
def Yv (l:List Nat):∀u∈Ih l,u.oneCell'=true:=by
 intro u hu;obtain⟨i,_,rfl⟩:=List.mem_map.1 hu;rfl
def Rp (h:Rd w A 1 n (Ih l)) (i:Nat) (hi:i<l.length):
  ∃b o,A=Af ⟨b,o,Ae⟩/\b<w.heap.size/\w.cell? ⟨b,o+i,Ae⟩=Af (Aa Ab (l[i]:Int)):=by
 have hl:=h.1;rw[Lr]at hl;obtain⟨b,o,e,hb,hc⟩:=h.2 Gv;exact⟨b,o,e,hb,hc i _ (by simp[Ih,hi])⟩
def Kh (l:List Nat) (v:Nat):Int:=match l.findIdx? (λx=>decide (x=v))with
 |some i=>(i:Int)
 |none=> -1
def mK {v i:Nat} (hi:i<l.length) (h:l[i]=v) (hb:∀j (hj:j<l.length),j<i->l[j]≠v):Kh l v=i:=by
 unfold Kh
 have:l.findIdx? (λx=>decide (x=v))=Af i:=by
  rw[List.findIdx?_eq_some_iff_getElem];exact⟨hi,by simp[h],λj hj=>by simp[hb j Gv hj]⟩
 rw[this]
def Aj9 {v:Nat} (hb:∀j (hj:j<l.length),l[j]≠v):Kh l v= -1:=by
 unfold Kh
 have:l.findIdx? (λx=>decide (x=v))=Ae:=by
  rw[List.findIdx?_eq_none_iff];intro x hx;obtain⟨j,hj,rfl⟩:=List.mem_iff_getElem.1 hx;simp[hb j hj]
 rw[this]
def iZ (A:Option Cj) (l:List Nat) (n c v:Nat) (w:Aj) (hn:n=l.length) (h:Rd w A 1 n (Ih l)) (hl:n<=1000000):
  Al Dp 76 #[Ad A n c,v] w (Gz (Aa Ab (Kh l v)) w):=by
 have dt:=Ah h;have HN:=Ah hn;clear h hn;go_in;go_wp2
 go_loopw [5,8] (λ_ i wr=>∃k:Nat,k<=n/\i= Aa Ab k/\Below w.heap.size w wr/\Hid (∀j (hj:j<l.length),j<k->l[j]≠v)) (λ_ i _=>n-(intOf i).toNat)
 case atStart=>exact⟨0,Gv,rfl,Ag _ _,Ah λj _ hj=>absurd hj Gv⟩
 obtain⟨k,hk,rfl,hb,HK⟩:=hrel;by_cases ac:k<n
 ·have be:k<l.length:=oHx HN.out;obtain⟨bb,o,rfl,cj,c0⟩:=Rp (dt.out.below hb) k be;have q1:(k:Int)<(n:Int):=Gv;by_cases he:l[k]=v
  ·have HF:=Ah (mK be he λj hj h=>HK.out j hj h);rw[he]at c0;clear he;go_wp2;go_ret;exact⟨by rw[HF.out];rfl,hb⟩
  ·obtain⟨r,hr⟩:=ey (l[k])
   have js:=Ah (λj (hj:j<l.length) (h:j<k+1)=>show l[j]≠v by
    by_cases lu:j=k
    ·subst lu;exact he
    ·exact HK.out j hj Gv)
   rw[hr]at c0 he;have hne:((v:Int)==(r:Int))=false:=Hv;clear hr;go_wp2;exact⟨⟨k+1,Gv,by go_num,hb,js⟩,by simp[intOf];omega⟩
 ·have q1:¬(k:Int)<(n:Int):=Gv;have HF:=Ah (Aj9 (l:=l) (v:=v) λj hj=>HK.out j hj (oHx HN.out));go_wp2;go_ret;exact⟨by rw[HF.out];rfl,hb⟩
def Jk (w:Aj) (base:Nat) (e:Ck) (sz:Nat) (A:Option Cj) (n:Nat) (xs:List Ak):Prop:=
 xs.length=n*sz/\((A=Ae/\n=0)∨∃g cur,A=Af ⟨g,0,Ae⟩/\base<=g/\w.heap[g]? =Af (Co cur e (0,0))/\n*sz<=cur.size/\cur.toList.take (n*sz)=xs)
def Jk.of_own {base:Nat} (h:w.ownsRow base e sz (Ad A n c) n xs):Jk w base e sz A n xs:=by
 refine⟨h.1,?_⟩;rcases h.2 with⟨h0,h1⟩|⟨g,cap,cur,hv,hb,hg,hn,_,hs,ht⟩
 ·have hA:A=Ae:=by injection h0
  exact .inl ⟨hA,h1⟩
 ·have hA:A=Af ⟨g,0,Ae⟩:=by injection hv
  refine .inr ⟨g,cur,hA,hb,hg,?_,ht⟩;rw[hs];exact Fu _ hn
def Jk.below {base:Nat} (h:Jk w base e sz A n xs) (hb:Below w.heap.size w w'):Jk w' base e sz A n xs:=by
 refine⟨h.1,?_⟩;rcases h.2 with h0|⟨g,cur,r1,r2,r3,r4⟩
 ·exact .inl h0
 ·exact .inr ⟨g,cur,r1,r2,kept hb r3 (Au.1 r3).1,r4⟩
def Jk.rd {base:Nat} (h:Jk w base e sz A n xs):Rd w A sz n xs:=by
 refine⟨h.1,λhn=>?_⟩;rcases h.2 with⟨_,h0⟩|⟨g,cur,hA,hb,hg,hs,ht⟩
 ·omega
 ·refine⟨g,0,hA,(Au.1 hg).1,λj u hu=>?_⟩;rw[Bu,Bz w g j cur e (0,0) hg];rw[<-ht,List.getElem?_take]at hu
  split at hu
  ·simpa using hu
  ·cases hu
def Jk.setCell {base:Nat} (h:Jk w base e sz A n xs) {b j:Nat} (v:Ak) (hb:b<base):Jk (w.setCell ⟨b,j,Ae⟩ v) base e sz A n xs:=by
 refine⟨h.1,?_⟩;rcases h.2 with h0|⟨g,cur,r1,r2,r3,r4⟩
 ·exact .inl h0
 ·exact .inr ⟨g,cur,r1,r2,(Dq w ⟨b,j,Ae⟩ v g (by show g≠b;omega)).trans r3,r4⟩
def Jk.base {base WW:Nat} (h:Jk w base e sz A n xs) (hb:WW<=base):Jk w WW e sz A n xs:=by
 refine⟨h.1,?_⟩;rcases h.2 with h0|⟨g,cur,r1,r2,r3⟩
 ·exact .inl h0
 ·exact .inr ⟨g,cur,r1,Gv,r3⟩
def AOk.clip (h:AOk A n c):AOk A n n:=by
 rcases h with⟨h1,h2,_⟩|h
 ·exact .inl ⟨h1,h2,h2⟩
 ·exact .inr h
def Ap4 (c:Cl) (l:List Nat) (w:Aj) (en:Ending) (w':Aj):Prop:=
 ∃A,en= .returned (.agg #[Aa Ab c.x,Aa Ab c.y,Aa Ac c.q,Ad A l.length l.length])/\AOk A l.length l.length/\Jk w' w.heap.size 3 1 A l.length (Ih l)/\Below w.heap.size w w'
def Rb (c:Cl) (A:Option Cj) (l:List Nat) (n cc:Nat) (w:Aj) (hn:n=l.length) (hA:AOk A n cc) (h:Rd w A 1 n (Ih l)) (hl:n<=1000000):
  Al Dp 107 #[.agg #[Aa Ab c.x,Aa Ab c.y,Aa Ac c.q,Ad A n cc]] w (Ap4 c l w):=by
 obtain⟨x,y,q⟩:=c;have IT:=Ah λ(w':Aj) (hb:Below w.heap.size w w')=>Va A n cc (Ih l) w' hA (h.below hb) (Yv l) hl;have HN:=Ah hn;unfold Ap4;dsimp only;rw[<-hn];have H:=((Bx.start w).new #[x,y,Aa Ac q,Ad A n cc] 92 rfl).new #[Aa Ab 0,Aa Ab 0,Aa Ac 0,Ad Ae 0 0] 92 (N:=w.heap.size+1) Gy;clear hn hA h hl;go_in;go_upto_region 1 with fail;generalize (w.alloc _).alloc _=W at H⊢;obtain⟨N,ct⟩:=Tw w.heap.size;rw[<-ct.out]at H⊢;have EQ:N+1<W.heap.size:=H.lt 1 rfl;obtain⟨⟨a0,a1,a2,a3⟩,_⟩:=Jh (H.b 0)
 go_region_held3 (λw'=>w'.cell? ⟨N,0,Ae⟩=Af (Aa Ab x)/\w'.cell? ⟨N,1,Ae⟩=Af (Aa Ab y)/\w'.cell? ⟨N,2,Ae⟩=Af (Aa Ac q)/\w'.cell? ⟨N,3,Ae⟩=Af (Ad A n cc))
  (first|exact⟨a0,a1,a2,a3⟩|go_keep)
  (first
   |(go_at_call 79;(with_reducible refine(IT.out _ H.below.drew).mono ?_);rintro e w3 ⟨v,rfl,aa,bh⟩;obtain⟨A',c',rfl,du,JZ,jb⟩:=Mi aa;have H:=H.call (Hl bh);have a0:=Gw (Hl bh) a0;have a1:=Gw (Hl bh) a1;have a2:=Gw (Hl bh) a2;have a3:=Gw (Hl bh) a3)
   |(go_at_call 49;(with_reducible refine(Yn A' n c' _ JZ jb).mono ?_);rintro e w4 ⟨rfl,da⟩;have H:=H.call da;have ae:=(Jk.of_own aa).below da;have a0:=Gw da a0;have a1:=Gw da a1;have a2:=Gw da a2;have a3:=Gw da a3;obtain⟨⟨y0,y1,y2,y3⟩,z0,z1,z2,z3⟩:=Jh (H.b 1))
   |fail)
 have ac:N+1<W.drew.heap.size:=EQ;have je:=(((ae.setCell (j:=0) (Aa Ab x) ac).setCell (j:=1) (Aa Ab y) ac).setCell (j:=2) (Aa Ac q) ac).setCell (j:=3) (Ad A' n n) ac;have H5:=(((H.set 1 0 rfl (Aa Ab x)).set 1 1 rfl (Aa Ab y)).set 1 2 rfl (Aa Ac q)).set 1 3 rfl (Ad A' n n);have lz:w.heap.size<=W.drew.heap.size:=oHx ct.out;go_wp2_with fail;exact Ai (Lv rfl rfl (H5.range 1 rfl) Tryz.underlying92 rfl Gx) rfl ⟨A',rfl,du.clip,je.base lz,H5.below⟩
def Jc (x:Stk×(Option Cj×Nat)):List Ak:=[Aa Ab x.1.c.x,Aa Ab x.1.c.y,Aa Ac x.1.c.q,Ad x.2.1 x.1.ls.length x.2.2]
def Lg (x:Stk×(Option Cj×Nat)):(Jc x).length=4:=rfl
def Ib (w:Aj) (A:Option Cj) (l:List Stk):Prop:=
 ∃hs:List (Option Cj×Nat),hs.length=l.length/\Rd w A 4 l.length ((l.zip hs).flatMap Jc)/\
  ∀(i:Nat) (h:i<l.length) (h':i<hs.length),AOk hs[i].1 l[i].ls.length hs[i].2/\l[i].ls.length<=hs[i].2/\hs[i].2<=maxLen/\Rd w hs[i].1 1 l[i].ls.length (Ih l[i].ls)
def Ib.below {l:List Stk} (h:Ib w A l) (hb:Below w.heap.size w w'):Ib w' A l:=by
 obtain⟨hs,h1,h2,h3⟩:=h;exact⟨hs,h1,h2.below hb,λi hi uo=>⟨(h3 i hi uo).1,(h3 i hi uo).2.1,(h3 i hi uo).2.2.1,(h3 i hi uo).2.2.2.below hb⟩⟩
def Ib.get {l:List Stk} (h:Ib w A l) (i:Nat) (hi:i<l.length):
  ∃b o A' c',A=Af ⟨b,o,Ae⟩/\b<w.heap.size/\(w.cell? ⟨b,o+i*4,Ae⟩=Af (Aa Ab l[i].c.x)/\w.cell? ⟨b,o+i*4+1,Ae⟩=Af (Aa Ab l[i].c.y)/\w.cell? ⟨b,o+i*4+2,Ae⟩=Af (Aa Ac l[i].c.q)/\w.cell? ⟨b,o+i*4+3,Ae⟩=Af (Ad A' l[i].ls.length c'))/\
   AOk A' l[i].ls.length c'/\l[i].ls.length<=c'/\c'<=maxLen/\Rd w A' 1 l[i].ls.length (Ih l[i].ls):=by
 obtain⟨hs,h1,h2,h3⟩:=h;have uo:i<hs.length:=Gv;obtain⟨b,o,e,hb,hc⟩:=h2.2 Gv;have hz:i<(l.zip hs).length:=Hv
 have bi:∀f,f<4->((l.zip hs).flatMap Jc)[i*4+f]? =(Jc (l[i],hs[i]))[f]? :=λf hf=>by
  rw[It Jc 4 Lg _ i f hz hf,List.getElem_zip]
 obtain⟨g1,g2,g3,g4⟩:=h3 i hi uo;refine⟨b,o,hs[i].1,hs[i].2,e,hb,⟨?_,?_,?_,?_⟩,g1,g2,g3,g4⟩
 ·exact hc (i*4+0) _ ((bi 0 Gv).trans rfl)
 ·exact hc (i*4+1) _ ((bi 1 Gv).trans rfl)
 ·exact hc (i*4+2) _ ((bi 2 Gv).trans rfl)
 ·exact hc (i*4+3) _ ((bi 3 Gv).trans rfl)
def Qe (k c s:Int):Bool:=okL k c&&decide (s<=1)
def gX (k c s:Int) (v:Bool) (w:Aj):Al Dp 65 #[.agg #[Aa Ac k,c,Aa Ac s,.bool v]] w (Gz (Aa Ab (ec (Qe k c s) 1)) w):=by
 have H:=(Bx.start w).new #[Aa Ac k,c,Aa Ac s,.bool v] 50 rfl;obtain⟨R,hR⟩:=ey (Qe k c s);rw[hR];have HR:=Ah hR;clear hR;go_in;go_upto_region 1 with fail;generalize w.alloc _=W at H⊢;generalize w.heap.size=N at H⊢;obtain⟨⟨a0,a1,a2,a3⟩,_⟩:=Jh (H.b 0);go_wp2_with fail;refine(Jm k c _).mono ?_;rintro e w2 ⟨rfl,hb⟩;have H2:=H.call hb;clear a0 a1 a2 a3 hb H;obtain⟨⟨a0,a1,a2,a3⟩,_⟩:=Jh (H2.b 0)
 cases hL:okL k c
 ·have HF:Hid (R=false):=Ah (by rw[<-HR.out];unfold Qe;rw[hL];rfl);rw[Qm];clear hL;go_wp2;go_ret;exact⟨by rw[HF.out];rfl,H2.below⟩
 ·have HF:Hid (R=decide (s<=1)):=Ah (by rw[<-HR.out];unfold Qe;rw[hL];rfl);rw[Lq];clear hL;by_cases h1:s<=1
  ·have h2:¬1<s:=Gv;go_wp2;go_ret;exact⟨by rw[HF.out,Ld h1];rfl,H2.below⟩
  ·have h2:1<s:=Gv;go_wp2;go_ret;exact⟨by rw[HF.out,Me Gv];rfl,H2.below⟩
end Go.Proofs.YtlgkpdfieaadaaaGreatDoor
