import Derived.WalkKit
import Derived.WalkSpells
import Derived.WalkLawsBesides
import Derived.Lib.Hide
import Derived.Maps.AppendAt
import Derived.Deep.AppendLies
import Derived.Lib.AppendZeros
import Derived.Laws.CopyOwn
import Derived.Deep.QuietTactic
import Derived.BigQuiet
import Derived.BigRegion
import Derived.StillTailTactics
import Derived.Deep.RegionLaw
import Derived.Deep.RegionWith
import Derived.Deep.DeepCutAuto
import Derived.Deep.CutBlock
import Derived.Test.YtlgkpdfieaadaaaGreatDoorRows
import Derived.KernelRfl
import Derived.Deep.RegionHeld3
import Derived.Deep.MidRow
import Derived.Deep.Upon
import Derived.Laws.EntriesVeiled
import Derived.Lib.QuietBelow
import Derived.Laws.Cover3
set_option linter.all false
open Array renaming getElem?_eq_some_iff->Au
open Bool renaming and_eq_true->El,not_eq_true->Eo
open Go renaming Addr->Ci,Calls->Al,TypeId->Cj,Value->Ak,World->Aj,bodyPost_ret->Ai,cell_of_row->By,heap_alloc_new->Bz
open Go.IntKind renaming i64->Ab,u8->Ac
open Go.IntWalk renaming i64_in->Ca
open Go.Lib renaming hid->Ah,wpList_append_run->As
open Go.Obj renaming cells->Cn
open Go.Proofs.Tryz renaming prog->Do,underlying30->Fh,underlying38->Dk
open Go.Region renaming wanted->Dy
open Go.RowKit.Below renaming heap_alloc->Eg,heap_setCell->Dp,refl->Ag
open Go.Value renaming int->Aa,slice->Ad,ownBlock->Dv
open Go.World renaming frozen?->Dz
open Int renaming mul_assoc->Cv,tdiv_eq_ediv_of_nonneg->Gh,toNat_natCast->Eu
open List renaming flatMap_cons->Bf,getElem?_append_left->Fj,getElem?_append_right->Ee,getElem?_cons_succ->Cw,getElem?_eq_some_iff->Ax,getElem_cons_succ->Cd,getElem_cons_zero->Cc,getElem_mem->Ay,getElem_toArray->Ce,length_cons->En,nil_append->Et,range->Dr,replicate->Ba,setIfInBounds_toArray->Ch,set_append_right->Gg,set_cons_succ->Cg,set_cons_zero->Cf
open Nat renaming le_refl->Am,le_trans->Br,lt_of_lt_of_le->Bq,sub_self->Fk,zero_add->Bt
open Option renaming none->Ae,some->Af
set_option maxHeartbeats 4000000
set_option maxRecDepth 100000
namespace Go
theorem Shut.o {S:Aj->Prop} {N K:Act->Aj->Prop} (h:Shut (∀a w,S w->(S w->N a w)->K a w)) {a:Act} {w:Aj} (s:S w) (n:S w->N a w):K a w:=h a w s n
theorem oHx {a p:Prop} (h:a) (k:a->p:=by intro h;omega):p:=k h
theorem Hu {p:Prop} (h:p:=by simp;omega):p:=h
theorem Qs {p:Prop} (h:p:=by simp [Act.eval]):p:=h
theorem Gu {p:Prop} (h:p:=by omega):p:=h
theorem Gw {p:Prop} (h:p:=by kernel_rfl):p:=h
theorem Gx {p:Prop} (h:p:=by simp):p:=h
theorem Ha {p:Prop} (h:p:=by decide):p:=h
instance:Coe Int Ak:=⟨Value.int .i64⟩
instance:Coe Nat Ak:=⟨λn=>Value.int .i64 (n:Int)⟩
theorem Lg {p:Prop} [Decidable p]:(decide p=true)=p:=decide_eq_true_eq
theorem Lb {p:Prop} [Decidable p]:p->decide p=true:=decide_eq_true
theorem Ly {p:Prop} [Decidable p]: ¬p->decide p=false:=decide_eq_false
theorem Rt {p:Prop} [Decidable p]:decide p=false↔ ¬p:=decide_eq_false_iff_not
theorem Rl {p:Prop} [Decidable p]:decide p=true->p:=of_decide_eq_true
theorem Hd.{u} {c:Prop} {h:Decidable c} (hc:c) {α:Sort u} {t e:α}:(ite c t e)=t:=if_pos hc
theorem Gz.{u} {c:Prop} {h:Decidable c} (hc: ¬c) {α:Sort u} {t e:α}:(ite c t e)=e:=if_neg hc
end Go
namespace Go.Proofs.YtlgkpdfieaadaaaGreatDoor
open Go.RowKit
theorem ez.{u} {α:Sort u} (a:α):∃z,z=a:=⟨a,rfl⟩
theorem ey.{u} {α:Sort u} (a:α):∃z,a=z:=⟨a,rfl⟩
def Gy (v:Ak) (w:Aj) (e:Ending) (w':Aj):Prop:=e= .returned v/\Below w.heap.size w w'
theorem Iw {k:IntKind} {a b:Int} (h:a=b):Ending.returned (.int k a)= .returned (.int k b):=by rw[h]
def Rd (w:Aj) (A:Option Ci) (sz n:Nat) (xs:List Ak):Prop:=
 xs.length=n*sz/\(0<n->∃b o,A=Af ⟨b,o,Ae⟩/\b<w.heap.size/\∀j u,xs[j]? =Af u->w.cell? ⟨b,o+j,Ae⟩=Af u)
section
variable {w w':Aj} {A:Option Ci} {sz n:Nat} {xs:List Ak}
theorem Rd.nil:Rd w A sz 0 []:=⟨Gx,λh=>absurd h Gu⟩
theorem Rd.keep (h:Rd w A sz n xs) (hs:w.heap.size<=w'.heap.size) (hk:∀b o,b<w.heap.size->w'.cell? ⟨b,o,Ae⟩=w.cell? ⟨b,o,Ae⟩):Rd w' A sz n xs:=
 ⟨h.1,λhn=>by
  obtain⟨b,o,e,hb,hc⟩:=h.2 hn;exact⟨b,o,e,Gu,λj u hu=>(hk _ _ hb).trans (hc j u hu)⟩⟩
theorem Rd.below (h:Rd w A sz n xs) (hb:Below w.heap.size w w'):Rd w' A sz n xs:=h.keep hb.size λb o hl=>hb.cell (p:=⟨b,o,Ae⟩) hl
theorem Rd.alloc (h:Rd w A sz n xs) (o:Obj):Rd (w.alloc o) A sz n xs:=h.keep Gx λb o' hl=>World.cell?_alloc_lt w o ⟨b,o',Ae⟩ hl
theorem Rd.of_own {base:Nat} {e:Cj} {c:Nat} (h:w.ownsRow base e sz (Ad A n c) n xs):Rd w A sz n xs:=by
 refine⟨h.1,λhn=>?_⟩;rcases h.2 with⟨_,h0⟩|⟨g,cap,cur,hv,_,hg,_,_,_,ht⟩
 ·omega
 ·have hA:A=Af ⟨g,0,Ae⟩:=by injection hv
  refine⟨g,0,hA,(Au.1 hg).1,λj u hu=>?_⟩;rw[Bt,By w g j cur e (0,0) hg];rw[<-ht,List.getElem?_take]at hu
  split at hu
  ·simpa using hu
  ·cases hu
end
def Nv (e:Cj) (sz n:Nat) (xs:List Ak) (w:Aj) (en:Ending) (w':Aj):Prop:=
 ∃v,en= .returned v/\w'.ownsRow w.heap.size e sz v n xs/\Below w.heap.size w w'
theorem Pl {w:Aj} {e:Cj} {b:Nat} (xs:List Ak) (n sz:Nat) (h:xs.length=n*sz) (hb:w.heap.size=b):Rd (w.alloc (.cells xs.toArray e)) (Af ⟨b,0,Ae⟩) sz n xs:=by
 subst hb
 exact⟨h,λ_=>⟨_,0,rfl,Gx,λj u hu=>by
  rw[Bt,By _ _ j xs.toArray e (0,0) (Bz w _)];simpa using hu⟩⟩
theorem Ij {B:Nat} {a w:Aj} (h:Below B a w) (n:Nat):Below B a (w.drewN n):=⟨h.os,h.tape,h.output,h.size,h.block⟩
theorem Gv {W w1:Aj} (hb:Below W.heap.size W w1) {b o:Nat} {v:Ak} (h:W.cell? ⟨b,o,Ae⟩=Af v):w1.cell? ⟨b,o,Ae⟩=Af v:=by
 rw[hb.cell (p:=⟨b,o,Ae⟩) (World.block_lt_of_cell? W ⟨b,o,Ae⟩ h)];exact h
theorem Hx {w w':Aj} {base:Nat} {e:Cj} {size:Nat} {v:Ak} {n B:Nat} {xs:List Ak} (h:w.ownsRow base e size v n xs) (hB:w.heap.size<=B) (hb:Below B w w'):w'.ownsRow base e size v n xs:=by
 refine⟨h.1,?_⟩;rcases h.2 with hn|⟨g,cap,cur,rfl,j7,DJ,rest⟩
 ·exact .inl hn
 ·exact .inr ⟨g,cap,cur,rfl,j7,(hb.block g (oHx ((Au.1 DJ).1))).trans DJ,rest⟩
theorem Iv {α β:Type} (g:α->List β) (sz:Nat) (hg:∀a,(g a).length=sz) (l:List α) (i f:Nat) (hi:i<l.length) (hf:f<sz):
  (l.flatMap g)[i*sz+f]? =(g l[i])[f]? :=by
 induction l generalizing i with
 |nil=>simp at hi
 |cons a r ih=>
  cases i with
  |zero=>rw[Bf,Fj (by rw[hg];omega)];simp
  |succ i=>
   rw[Bf,Ee (by rw[hg,Nat.succ_mul];omega),hg];have:(i+1)*sz+f-sz=i*sz+f:=by rw[Nat.succ_mul];omega
   rw[this];simpa using ih i (by simpa using hi)
theorem Ks {α β:Type} (g:α->List β) (sz:Nat) (hg:∀a,(g a).length=sz) (l:List α):(l.flatMap g).length=l.length*sz:=by
 induction l with
 |nil=>simp
 |cons a r ih=>rw[Bf,List.length_append,ih,hg,En,Nat.succ_mul];omega
theorem Oo {α β:Type} (g:α->List β) (sz:Nat) (hg:∀a,(g a).length=sz) (l:List α) (i f:Nat) (hi:i<l.length) (hf:f<sz) (a:α) (u:β) (ha:g a=(g l[i]).set f u):
  (l.set i a).flatMap g=(l.flatMap g).set (i*sz+f) u:=by
 induction l generalizing i with
 |nil=>simp at hi
 |cons b r ih=>
  cases i with
  |zero=>
   simp only[Cf,Bf,Nat.zero_mul,Bt];rw[List.set_append_left _ _ (by rw[hg];omega),ha];simp
  |succ i=>
   simp only[Cg,Bf];rw[Gg _ _ (by rw[hg,Nat.succ_mul];omega),hg];have e:(i+1)*sz+f-sz=i*sz+f:=by rw[Nat.succ_mul];omega
   rw[e,ih i (by simpa using hi) (by simpa using ha)]
theorem Np {w:Aj} {b b':Nat} {e:Cj} {sz:Nat} {v:Ak} {n:Nat} {xs:List Ak} (h:w.ownsRow b e sz v n xs) (hb:b'<=b):w.ownsRow b' e sz v n xs:=by
 refine⟨h.1,?_⟩;rcases h.2 with hn|⟨g,cap,cur,r1,r2,r3⟩
 ·exact .inl hn
 ·exact .inr ⟨g,cap,cur,r1,Gu,r3⟩
theorem Hw {w:Aj} {b:Nat} {e:Cj} {sz:Nat} {v:Ak} {n:Nat} {xs:List Ak} (h:w.ownsRow b e sz v n xs):∃A c,v= Ad A n c/\n<=c/\c<=maxLen:=by
 rcases h.2 with⟨rfl,h0⟩|⟨g,cap,cur,r1,_,_,r2,r3,_⟩
 ·exact⟨Ae,0,by rw[h0],Gu,by simp[maxLen]⟩
 ·exact⟨_,cap,r1,r2,r3⟩
theorem Ti {w:Aj} {base g n c sz:Nat} {e:Cj} {xs:List Ak} (h:w.ownsRow base e sz (Ad (Af ⟨g,0,Ae⟩) n c) n xs):∀q,w.frozen? ⟨g,q,Ae⟩=false:=by
 intro q;rcases h.2 with⟨h0,_⟩|⟨g',cap,cur,hv,j7,DJ,_⟩
 ·simp at h0
 obtain⟨rfl,rfl⟩:g'=g/\cap=c:=by simp at hv;exact⟨hv.1.symm,hv.2.symm⟩
 simp[Dz,DJ]
theorem Kt {a b c:Aj} {r:Option Nat} (h:a.grownBy b r) (k:b.grownBy c r):a.grownBy c r:=
 ⟨k.os.trans h.os,k.tape.trans h.tape,k.output.trans h.output,Br h.size k.size,λi hi hne=>(k.block i (Bq hi h.size) hne).trans (h.block i hi hne)⟩
theorem Jr (w:Aj) (r:Option Nat):w.grownBy w r:=⟨rfl,rfl,rfl,Am _,λ_ _ _=>rfl⟩
theorem Rh {a b:Aj} {r:Option Nat} (h:a.grownBy b r):a.grownBy b.drew r:=⟨h.os,h.tape,h.output,h.size,h.block⟩
theorem Kx {w0 w:Aj} {base g n cap sz:Nat} {e:Cj} {xs:List Ak} (h:w.ownsRow base e sz (Ad (Af ⟨g,0,Ae⟩) n cap) n xs) (hg:w0.grownBy w (Af g)) (q:Nat) (u:Ak):
  (w.setCell ⟨g,q,Ae⟩ u).ownsRow base e sz (Ad (Af ⟨g,0,Ae⟩) n cap) n (xs.set q u)/\w0.grownBy (w.setCell ⟨g,q,Ae⟩ u) (Af g):=
 ⟨(h.stored q u).1,Kt hg (h.stored q u).2⟩
theorem cY {P:Program} (w:Aj) (t ty e:Cj) (i:TypeInfo) (ht:P.underlying t=Af (.slice e)) (hi:P.info? e=Af i) (b:Ci) (n cap c:Nat) (h:n<=cap):
  (Builtin.append_ #[t,t] ty #[Ad (Af b) n cap,Ad Ae 0 c]).run P w= .ok (Ad (Af b) n cap) w:=by
 simp[Builtin.append_,run_underlying ht,sizeOf,typeInfo,hi,Builtin.lenOf,Builtin.firstCells,loadCells,h,storeCells]
theorem Rd.allK {w:Aj} {a:Ci} {n sz:Nat} {xs:List Ak} (h:Rd w (Af a) sz n xs):∀j u,xs[j]? =Af u->w.cell? (a.add j)=Af u:=by
 intro j u hu;have hj:=(Ax.1 hu).1;have hl:=h.1
 have hn:0<n:=by
  rcases Nat.eq_zero_or_pos n with h0|h0
  ·subst h0;omega
  ·exact h0
 obtain⟨b,o,e,_,hc⟩:=h.2 hn
 cases e
 have fh:(⟨b,o,Ae⟩:Ci).add j=⟨b,o+j,Ae⟩:=by unfold Addr.add;split<;>simp_all
 rw[fh];exact hc j u hu
theorem Ht {P:Program} (w:Aj) (base:Nat) (t ty e:Cj) (i:TypeInfo) (z:Ak) (size bytes:Nat) (ht:P.underlying t=Af (.slice e)) (hi:P.info? e=Af i) (hz:i.zero=Af z)
  (hsize:i.size=size) (hby:i.bytes=bytes) (NG:z.cells.size=size) (hs:0<size) (v:Ak) (n:Nat) (xs:List Ak) (aa:w.ownsRow base e size v n xs) (A:Option Ci) (m c:Nat) (news:List Ak) (h1:∀u∈news,u.oneCell'=true) (hR:Rd w A size m news) (hA:A=Ae->m=0)
  (h63:n+m<=1000000000000) (l9:bytes<=100) (kq:base<=w.heap.size):
  ∃v' w',(Builtin.append_ #[t,t] ty #[v,Ad A m c]).run P w= .ok v' w'/\w'.ownsRow base e size v' (n+m) (xs++news)/\w.grownBy w' v.ownBlock:=by
 cases A with
 |none=>
  have hm:=hA rfl;subst hm
  have hl:news=[]:=by
   have:=hR.1;rw[Nat.zero_mul]at this;exact List.length_eq_zero_iff.1 this
  subst hl;rw[List.append_nil,Nat.add_zero];refine⟨v,w,?_,aa,Jr _ _⟩;rcases aa.2 with⟨rfl,rfl⟩|⟨g,cap,cur,rfl,_,_,xy,_⟩
  ·simp[Builtin.append_,run_underlying ht,sizeOf,typeInfo,hi,Builtin.lenOf,Builtin.firstCells]
  ·exact cY w t ty e i ht hi _ n cap c xy
 |some a=>
  obtain⟨v',w',hr,h2,h3,_⟩:=run_append_own_at (P:=P) w base t ty e i z size bytes ht hi hz hsize hby NG hs v n xs aa a m c news hR.1 hR.allK h1 (by unfold maxLen;omega) (by
   have:(n+m)*bytes<=(n+m)*100:=Nat.mul_le_mul_left _ l9;omega) kq
  exact⟨v',w',hr,h2,h3⟩
theorem Py {w:Aj} {g base n c:Nat} {e:Cj} {cs:Array Ak} {sz:Nat} (hb:base<=g) (hg:w.heap[g]? =Af (.cells cs e (0,0))) (_hn:n<=c) (hc:c<=maxLen) (DH:cs.size=c*sz):w.ownsRow base e sz (Ad (Af ⟨g,0,Ae⟩) 0 c) 0 []:=
 ⟨Gx,.inr ⟨g,c,cs,rfl,hb,hg,Gu,hc,DH,Gx⟩⟩
theorem Pt {a b c:Aj} {g:Nat} (h:a.grownBy b (Af g)) (k:Below b.heap.size b c):a.grownBy c (Af g):=
 ⟨k.os.trans h.os,k.tape.trans h.tape,k.output.trans h.output,Br h.size k.size,λi hi hne=>(k.block i (Bq hi h.size)).trans (h.block i hi hne)⟩
theorem cE {a b:Aj} {r:Option Nat} (h:a.grownBy b r) (n:Nat):a.grownBy (b.drewN n) r:=⟨h.os,h.tape,h.output,h.size,h.block⟩
theorem Lw {w:Aj} {base:Nat} {e:Cj} {sz n:Nat} {v:Ak} {xs:List Ak} (h:w.ownsRow base e sz v n xs):∃A c,v= Ad A n c/\(A=Ae->n=0):=by
 rcases h.2 with⟨rfl,rfl⟩|⟨g,cap,cur,rfl,_⟩
 ·exact⟨Ae,0,rfl,λ_=>rfl⟩
 ·exact⟨Af ⟨g,0,Ae⟩,cap,rfl,λh=>by cases h⟩
theorem Jw {P:Program} {w:Aj} {ops:Array Oper} {o:Oper} {a:Act} {K:Act->Aj->Prop} {Q:Exit->Act->Aj->Prop} {E:Prop} (hw:Dy o (yielded ops a.tmps)=true) (s x:Operand) (t:Cj)
  (ho:o.op= .call {callee:= .builtin .append,args:=#[s,x],argTypes:=#[t,t]}) (vs vx:Ak) (hs:a.eval s=vs) (hx:a.eval x=vx) (v':Ak) (w':Aj)
  (hr:(Builtin.append_ #[t,t] o.type #[vs,vx]).run P w= .ok v' w') (h:K (a.put o.dst v') w'):if Dy o (yielded ops a.tmps)=true then Oper.wp P o a w K Q else E:=by
 rw[Hd hw];exact Lib.wp_append_run w s x t t ho vs vx hs hx v' w' hr h
theorem pR {w:Aj} {g:Nat} {v:Ak} {t:Cj} (h:w.heap[g]? =Af (.cells #[v] t (0,0))):w.cell? ⟨g,0,Ae⟩=Af v:=by
 rw[By w g 0 #[v] t (0,0) h];rfl
theorem Hk {w w2:Aj} (h:Below w.drew.heap.size w.drew w2):Below w.heap.size w w2:=⟨h.os,h.tape,h.output,h.size,h.block⟩
theorem Wl {w:Aj} {B e e' s s' n n':Nat} {v v':Ak} {xs xs':List Ak} (h:w.ownsRow B e s v n xs) (h':w.ownsRow B e' s' v' n' xs') (hne:e≠e'):v.ownBlock=Ae∨v.ownBlock≠v'.ownBlock:=by
 rcases h.2 with⟨rfl,_⟩|⟨g,cap,cur,rfl,_,hg,_⟩
 ·exact .inl rfl
 ·refine .inr ?_;rcases h'.2 with⟨rfl,_⟩|⟨g',KM,YN,rfl,_,ud,_⟩
  ·simp[Dv]
  ·intro e1;have:g=g':=by simpa[Dv]using e1
   subst this;rw[hg]at ud;injection ud with h1;injection h1 with _ h2 _;exact hne h2
theorem Vm {w w':Aj} {B e s n:Nat} {v:Ak} {xs:List Ak} {row:Option Nat} (h:w.ownsRow B e s v n xs) (hg:w.grownBy w' row) (hne:v.ownBlock=Ae∨v.ownBlock≠row):w'.ownsRow B e s v n xs:=by
 refine⟨h.1,?_⟩;rcases h.2 with hn|⟨g,cap,cur,rfl,hb,DJ,rest⟩
 ·exact .inl hn
 ·refine .inr ⟨g,cap,cur,rfl,hb,(hg.block g (Au.1 DJ).1 ?_).trans DJ,rest⟩;rcases hne with h0|h0
  ·simp[Dv]at h0
  ·exact h0
theorem Zx {α:Type} (U V Z:List α) (x y:α) {i j:Nat} (hi:i=U.length) (hj:j=U.length+1+V.length):
  (U++x::(V++y::Z))[i]? =Af x/\(U++x::(V++y::Z))[j]? =Af y/\((U++x::(V++y::Z)).set i y).set j x=U++y::(V++x::Z):=by
 subst hi hj;refine⟨?_,?_,?_⟩
 ·rw[Ee (Am _),Fk];rfl
 ·rw[Ee Gu,show U.length+1+V.length-U.length=V.length+1 by omega,Cw,Ee (Am _),Fk];rfl
 ·rw[Gg _ _ (Am _),Fk,Cf,Gg _ _ Gu,show U.length+1+V.length-U.length=V.length+1 by omega,Cg,Gg _ _ (Am _),Fk,Cf]
def Ih (a b:Int):Int:=if a<b then-1 else if b<a then 1 else 0
theorem Tu {a b:Int} (h:a<b):Ih a b= -1:=by unfold Ih;rw[Hd h]
theorem jZ {a b:Int} (h:b<a):Ih a b=1:=by unfold Ih;rw[Gz Gu,Hd h]
theorem jY {a b:Int} (h:b<=a) (h':a<=b):Ih a b=0:=by unfold Ih;rw[Gz Gu,Gz Gu]
theorem Rq {a b:Bool} (h:a=b):Ending.returned (.bool a)= .returned (.bool b):=by rw[h]
theorem gN (w:Aj) (o1 o2:Obj):((w.alloc o1).alloc o2).heap[w.heap.size]? =Af o1/\((w.alloc o1).alloc o2).heap[w.heap.size+1]? =Af o2:=by
 have h1:=Bz (w.alloc o1) o2;have h2:=Bz w o1;refine⟨?_,by simpa using h1⟩;rw[Eg _ _ _ Gx];exact h2
theorem kept {w w':Aj} {g B:Nat} {o:Obj} (hb:Below B w w') (h:w.heap[g]? =Af o) (hg:g<B):w'.heap[g]? =Af o:=(hb.block g hg).trans h
theorem Hn {w:Aj} {g:Nat} {a b:Ak} {t:Cj} (h:w.heap[g]? =Af (.cells #[a,b] t (0,0))):(w.cell? ⟨g,0,Ae⟩=Af a/\w.cell? ⟨g,1,Ae⟩=Af b)/\(w.frozen? ⟨g,0,Ae⟩=false/\w.frozen? ⟨g,1,Ae⟩=false):=by
 have hc:∀j,w.cell? ⟨g,j,Ae⟩= #[a,b][j]? :=λj=>By w g j _ t (0,0) h;have hf:∀j,w.frozen? ⟨g,j,Ae⟩=false:=λj=>by simp[Dz,h]
 exact⟨⟨hc 0,hc 1⟩,hf 0,hf 1⟩
theorem He {w:Aj} {g:Nat} {a b c:Ak} {t:Cj} (h:w.heap[g]? =Af (.cells #[a,b,c] t (0,0))):(w.cell? ⟨g,0,Ae⟩=Af a/\w.cell? ⟨g,1,Ae⟩=Af b/\w.cell? ⟨g,2,Ae⟩=Af c)/\(w.frozen? ⟨g,0,Ae⟩=false/\w.frozen? ⟨g,1,Ae⟩=false/\w.frozen? ⟨g,2,Ae⟩=false):=by
 have hc:∀j,w.cell? ⟨g,j,Ae⟩= #[a,b,c][j]? :=λj=>By w g j _ t (0,0) h;have hf:∀j,w.frozen? ⟨g,j,Ae⟩=false:=λj=>by simp[Dz,h]
 exact⟨⟨hc 0,hc 1,hc 2⟩,hf 0,hf 1,hf 2⟩
theorem Jm {w:Aj} {g:Nat} {a b c d:Ak} {t:Cj} (h:w.heap[g]? =Af (.cells #[a,b,c,d] t (0,0))):(w.cell? ⟨g,0,Ae⟩=Af a/\w.cell? ⟨g,1,Ae⟩=Af b/\w.cell? ⟨g,2,Ae⟩=Af c/\w.cell? ⟨g,3,Ae⟩=Af d)/\(w.frozen? ⟨g,0,Ae⟩=false/\w.frozen? ⟨g,1,Ae⟩=false/\w.frozen? ⟨g,2,Ae⟩=false/\w.frozen? ⟨g,3,Ae⟩=false):=by
 have hc:∀j,w.cell? ⟨g,j,Ae⟩= #[a,b,c,d][j]? :=λj=>By w g j _ t (0,0) h;have hf:∀j,w.frozen? ⟨g,j,Ae⟩=false:=λj=>by simp[Dz,h]
 exact⟨⟨hc 0,hc 1,hc 2,hc 3⟩,hf 0,hf 1,hf 2,hf 3⟩
def okC (x y q:Int):Bool:=decide (-4096<=x)&&decide (x<=4096)&&decide (-4096<=y)&&decide (y<=4096)&&decide (q<=3)
theorem Jt {x y q:Int}:okC x y q=true↔-4096<=x/\x<=4096/\-4096<=y/\y<=4096/\q<=3:=by
 unfold okC;simp;omega
theorem Bw0 {x y q:Int} (h:¬(-4096<=x/\x<=4096/\-4096<=y/\y<=4096/\q<=3)):okC x y q=false:=by
 rw[<-Eo,Jt];exact h
def ec (b:Bool) (e:Int):Int:=if b then 0 else e
theorem Ls (e:Int):ec true e=0:=rfl
theorem Qq (e:Int):ec false e=e:=rfl
theorem Jf (x y q:Int) (w:Aj):
  Al Do 120 #[.agg #[x,y,Aa Ac q]] w (Gy (Aa Ab (ec (okC x y q) 1)) w):=by
 go_enter Tryz.func120,Tryz.ntmps120;go_wp2_with fail
 all_goals go_ret
 all_goals refine⟨Iw ?_,(Ag _ _).alloc (Am _) _⟩
 all_goals first|rw[Bw0 Gu,Qq]|rw[Jt.2 Gu,Ls]
def okS (a b:Int):Bool:=decide (1<=a)&&decide (1<=b)&&decide (a<=256)&&decide (b<=256)&&decide (a*b<=256)
theorem dE {a b:Int}:okS a b=true↔1<=a/\1<=b/\a<=256/\b<=256/\a*b<=256:=by
 unfold okS;simp only[El,Lg,and_assoc]
theorem Aw0 {a b:Int} (h:¬(1<=a/\1<=b/\a<=256/\b<=256/\a*b<=256)):okS a b=false:=by
 rw[<-Eo,dE];exact h
theorem Ju (a b:Int) (w:Aj):
  Al Do 58 #[.agg #[a,b]] w (Gy (Aa Ab (ec (okS a b) 1)) w):=by
 by_cases hr:1<=a/\1<=b/\a<=256/\b<=256
 ·obtain⟨h1,h2,h3,h4⟩:=hr
  have hm:0<=a*b/\a*b<=65536:=by
   refine⟨Int.mul_nonneg Gu Gu,?_⟩;have e1:a*b<=256*b:=Int.mul_le_mul_of_nonneg_right h3 Gu;omega
  obtain⟨m,D9⟩:=ey (a*b);rw[D9]at hm;obtain⟨mw,MA⟩:=hm
  have e:okS a b=decide (m<=256):=by
   by_cases hk:m<=256
   ·rw[dE.2 ⟨h1,h2,h3,h4,Gu⟩];simp[hk]
   ·rw[Aw0 (λh=>hk (oHx h.2.2.2.2))];simp[hk]
  rw[e];clear e;go_enter Tryz.func58,Tryz.ntmps58;go_wp2_with fail
  all_goals go_ret
  all_goals refine⟨Iw ?_,(Ag _ _).alloc (Am _) _⟩
  all_goals first|rw[Ly Gu,Qq]|rw[Lb Gu,Ls]
 ·rw[Aw0 (λh=>hr ⟨h.1,h.2.1,h.2.2.1,h.2.2.2.1⟩),Qq];go_enter Tryz.func58,Tryz.ntmps58;go_wp2_with fail
  all_goals go_ret
  all_goals first|exact⟨rfl,(Ag _ _).alloc (Am _) _⟩|(exfalso;omega)
def okL (k c:Int):Bool:=decide (1<=k)&&decide (k<=4)&&decide (-4096<=c)&&decide (c<=4096)
theorem Mu {k c:Int}:okL k c=true↔1<=k/\k<=4/\-4096<=c/\c<=4096:=by unfold okL;simp;omega
theorem Bw1 {k c:Int} (h:¬(1<=k/\k<=4/\-4096<=c/\c<=4096)):okL k c=false:=by rw[<-Eo,Mu];exact h
def okP (x y:Int):Bool:=decide (-65536<=x)&&decide (x<=65536)&&decide (-65536<=y)&&decide (y<=65536)
theorem Wi {x y:Int}:okP x y=true↔-65536<=x/\x<=65536/\-65536<=y/\y<=65536:=by unfold okP;simp;omega
theorem Bw2 {x y:Int} (h:¬(-65536<=x/\x<=65536/\-65536<=y/\y<=65536)):okP x y=false:=by rw[<-Eo,Wi];exact h
def Mp (k x y:Int):Int:=if k=1 then x else if k=2 then y else if k=3 then x+y else y-x
def Oz (k c x y:Int):Int:=if Mp k x y<2*c then-1 else if 2*c<Mp k x y then 1 else 0
def Xe (n:Int):Bool:=decide (-16384<=n)&&decide (n<=16384)
def okM (t x y:Int):Bool:=decide (t<8)&&Xe x&&Xe y&&decide ((x+y)%2=0)
theorem Ry {t x y:Int}:okM t x y=true↔t<8/\(-16384<=x/\x<=16384)/\(-16384<=y/\y<=16384)/\(x+y)%2=0:=by
 unfold okM Xe;simp only[El,Lg,and_assoc]
def mat:Nat->Int×Int×Int×Int
 |0=>(1,0,0,1)|1=>(0,-1,1,0)|2=>(-1,0,0,-1)|3=>(0,1,-1,0)
 |4=>(-1,0,0,1)|5=>(0,-1,-1,0)|6=>(1,0,0,-1)|_=>(0,1,1,0)
def Ic (m:Int×Int×Int×Int) (x y:Int):Int×Int:=(m.1*x+m.2.1*y,m.2.2.1*x+m.2.2.2*y)
def Im (m n:Int×Int×Int×Int):Int×Int×Int×Int:=((Ic n m.1 m.2.2.1).1,(Ic n m.2.1 m.2.2.2).1,(Ic n m.1 m.2.2.1).2,(Ic n m.2.1 m.2.2.2).2)
def Kz (m:Int×Int×Int×Int):Nat:=if m=mat 0 then 0 else if m=mat 1 then 1 else if m=mat 2 then 2 else if m=mat 3 then 3 else if m=mat 4 then 4 else if m=mat 5 then 5 else if m=mat 6 then 6 else if m=mat 7 then 7 else 0
structure Mv where
 t:Nat
 x:Int
 y:Int
deriving DecidableEq
def Mv.ok (m:Mv):Bool:=okM m.t m.x m.y
def Mv.cells (m:Mv):List Ak:=[Aa Ac m.t,Aa Ab m.x,Aa Ab m.y]
def Mv.v (m:Mv):Ak:= .agg #[Aa Ac m.t,Aa Ab m.x,Aa Ab m.y]
def mv0:Mv:=⟨0,0,0⟩
def ofL (k c:Int):Mv:=if k=1 then⟨4,2*c,0⟩else if k=2 then⟨6,0,2*c⟩else if k=3 then⟨5,c,c⟩else⟨7,-c,c⟩
def gJ (m:Mv):Mv×Int:=if m.ok then (m,0)else (mv0,3)
def Vt (a b:Mv):Mv×Int:=gJ ⟨Kz (Im (mat a.t) (mat b.t)),(Ic (mat b.t) a.x a.y).1+b.x,(Ic (mat b.t) a.x a.y).2+b.y⟩
def Iu (m:Mv) (x y:Int):Int×Int:=((Ic (mat m.t) x y).1+2*m.x,(Ic (mat m.t) x y).2+2*m.y)
structure Cl where
 x:Int
 y:Int
 q:Nat
deriving DecidableEq
def Cl.ok (c:Cl):Bool:=okC c.x c.y c.q
def Cl.cells (c:Cl):List Ak:=[Aa Ab c.x,Aa Ab c.y,Aa Ac c.q]
def Cl.v (c:Cl):Ak:= .agg #[Aa Ab c.x,Aa Ab c.y,Aa Ac c.q]
def cl0:Cl:=⟨0,0,0⟩
def Ip:Nat->Int×Int
 |0=>(0,-1)|1=>(1,0)|2=>(0,1)|_=>(-1,0)
def Lj (d:Int×Int):Nat:=if d=Ip 3 then 3 else if d=Ip 2 then 2 else if d=Ip 1 then 1 else 0
def Ho (m:Mv) (c:Cl):Cl:=⟨(Iu m (2*c.x+1) (2*c.y+1)).1/2,(Iu m (2*c.x+1) (2*c.y+1)).2/2,Lj (Ic (mat m.t) (Ip c.q).1 (Ip c.q).2)⟩
def Li (m:Mv) (c:Cl):Cl×Int:=if(Ho m c).ok then (Ho m c,0)else (cl0,3)
def Ue:Nat->Int×Int
 |0=>(0,0)|1=>(2,2)|2=>(2,2)|_=>(0,0)
def Uf:Nat->Int×Int
 |0=>(2,0)|1=>(2,0)|2=>(0,2)|_=>(0,2)
def Ir (k c:Int) (e:Cl):Nat:=
 if Oz k c (2*e.x+1) (2*e.y+1)=1∨Oz k c (2*e.x+(Ue e.q).1) (2*e.y+(Ue e.q).2)=1∨Oz k c (2*e.x+(Uf e.q).1) (2*e.y+(Uf e.q).2)=1 then 1 else 0
def Kc (a b:Cl):Int:=if Ih a.y b.y≠0 then Ih a.y b.y else if Ih a.x b.x≠0 then Ih a.x b.x else Ih a.q b.q
def Js (c:Cl) (e:Nat):Int×Int:=
 if e=1 then (3,c.x+c.y+1)else if e=2 then (4,c.y-c.x)
 else match c.q with
  |0=>(2,c.y)|1=>(1,c.x+1)|2=>(2,c.y+1)|_=>(1,c.x)
def Xc (c:Cl) (e:Nat):(Int×Int)×Int:=if okL (Js c e).1 (Js c e).2 then (Js c e,0)else ((0,0),3)
structure Bx (w:Aj) (l:List (Nat×Array Ak×Cj)) (wr:Aj):Prop where
 below:Below w.heap.size w wr
 blk:∀(i g:Nat) (cs:Array Ak) (t:Cj),l[i]? =Af (g,cs,t)->wr.heap[g]? =Af (Cn cs t (0,0))
 lo:∀(i g:Nat) (cs:Array Ak) (t:Cj),l[i]? =Af (g,cs,t)->w.heap.size<=g
 inj:∀(i j g:Nat) (cs:Array Ak) (t:Cj) (ds:Array Ak) (u:Cj),l[i]? =Af (g,cs,t)->l[j]? =Af (g,ds,u)->i=j
section
variable {w wr w2:Aj} {l:List (Nat×Array Ak×Cj)}
theorem Bx.start (w:Aj):Bx w [] w:=⟨Ag _ _,Gx,Gx,Gx⟩
theorem Bx.lt (h:Bx w l wr) (i:Nat) {g:Nat} {cs:Array Ak} {t:Cj} (hi:l[i]? =Af (g,cs,t)):g<wr.heap.size:=(Au.1 (h.blk i g cs t hi)).1
theorem Bx.call (h:Bx w l wr) (hb:Below wr.heap.size wr w2):Bx w l w2:=
 ⟨h.below.trans (hb.mono h.below.size),λi g cs t hi=>kept hb (h.blk i g cs t hi) (h.lt i hi),h.lo,h.inj⟩
theorem Bx.drew (h:Bx w l wr):Bx w l wr.drew:=⟨h.below.drew,h.blk,h.lo,h.inj⟩
theorem Bx.drewN (h:Bx w l wr) (n:Nat):Bx w l (wr.drewN n):=⟨Ij h.below n,h.blk,h.lo,h.inj⟩
theorem Bx.other (h:Bx w l wr) (o:Obj):Bx w l (wr.alloc o):=h.call ((Ag _ _).alloc (Am _) o)
theorem Bx.new (h:Bx w l wr) (cs:Array Ak) (t:Cj) {N:Nat} (hN:wr.heap.size=N):Bx w (l++[(N,cs,t)]) (wr.alloc (.cells cs t)):=by
 subst hN;have h0:=h.other (Cn cs t)
 have hk:∀(i g:Nat) (ds:Array Ak) (u:Cj),(l++[(wr.heap.size,cs,t)])[i]? =Af (g,ds,u)->(i<l.length/\l[i]? =Af (g,ds,u))∨(i=l.length/\g=wr.heap.size/\ds=cs/\u=t):=by
  intro i g ds u hi;by_cases hl:i<l.length
  ·rw[Fj hl]at hi;exact .inl ⟨hl,hi⟩
  ·have se:i<(l++[(wr.heap.size,cs,t)]).length:=(Ax.1 hi).1;simp at se;have:i=l.length:=Gu;subst this;rw[Ee (Am _),Fk]at hi;simp at hi;exact .inr ⟨rfl,hi.1.symm,hi.2.1.symm,hi.2.2.symm⟩
 refine⟨h0.below,?_,?_,?_⟩
 ·intro i g ds u hi;rcases hk i g ds u hi with⟨_,h1⟩|⟨_,rfl,rfl,rfl⟩
  ·exact h0.blk i g ds u h1
  ·exact Bz wr _
 ·intro i g ds u hi;rcases hk i g ds u hi with⟨_,h1⟩|⟨_,rfl,rfl,rfl⟩
  ·exact h.lo i g ds u h1
  ·exact h.below.size
 ·intro i j g ds u es v hi hj;rcases hk i g ds u hi with⟨_,h1⟩|⟨h1,rfl,_,_⟩
  ·rcases hk j g es v hj with⟨_,h2⟩|⟨_,rfl,_,_⟩
   ·exact h.inj i j g ds u es v h1 h2
   ·exact absurd (h.lt i h1) Gu
  ·rcases hk j _ es v hj with⟨_,h2⟩|⟨h2,_,_,_⟩
   ·exact absurd (h.lt j h2) Gu
   ·omega
theorem Jv {wr:Aj} {g j:Nat} {cs:Array Ak} {t:Cj} (v:Ak) (hg:wr.heap[g]? =Af (Cn cs t (0,0))):(wr.setCell ⟨g,j,Ae⟩ v).heap[g]? =Af (.cells (cs.setIfInBounds j v) t (0,0)):=by
 simp[World.setCell,Array.getElem?_modify,hg]
theorem Bx.set (h:Bx w l wr) (i j:Nat) {g:Nat} {cs:Array Ak} {t:Cj} (hi:l[i]? =Af (g,cs,t)) (v:Ak):
  Bx w (l.set i (g,cs.setIfInBounds j v,t)) (wr.setCell ⟨g,j,Ae⟩ v):=by
 have bv:i<l.length:=(Ax.1 hi).1
 have hk:∀(k g':Nat) (ds:Array Ak) (u:Cj),(l.set i (g,cs.setIfInBounds j v,t))[k]? =Af (g',ds,u)->(k≠i/\l[k]? =Af (g',ds,u))∨(k=i/\g'=g/\ds=cs.setIfInBounds j v/\u=t):=by
  intro k g' ds u hk;by_cases RP:k=i
  ·subst RP;rw[List.getElem?_set_self bv]at hk;simp at hk;exact .inr ⟨rfl,hk.1.symm,hk.2.1.symm,hk.2.2.symm⟩
  ·rw[List.getElem?_set_ne (Ne.symm RP)]at hk;exact .inl ⟨RP,hk⟩
 refine⟨h.below.setCell (h.lo i g cs t hi) v,?_,?_,?_⟩
 ·intro k g' ds u vc;rcases hk k g' ds u vc with⟨hne,h1⟩|⟨_,rfl,rfl,rfl⟩
  ·have DJ:g'≠g:=λe=>by subst e;exact hne (h.inj k i _ _ _ _ _ h1 hi)
   exact(Dp wr ⟨g,j,Ae⟩ v g' DJ).trans (h.blk k g' ds u h1)
  ·exact Jv v (h.blk i _ cs _ hi)
 ·intro k g' ds u vc;rcases hk k g' ds u vc with⟨_,h1⟩|⟨_,rfl,_,_⟩
  ·exact h.lo k g' ds u h1
  ·exact h.lo i _ cs t hi
 ·intro a b g' ds u es v' ha hb;rcases hk a g' ds u ha with⟨h0,h1⟩|⟨rfl,rfl,_,_⟩
  ·rcases hk b g' es v' hb with⟨_,h2⟩|⟨rfl,rfl,_,_⟩
   ·exact h.inj a b g' ds u es v' h1 h2
   ·exact h.inj a b _ ds u cs t h1 hi
  ·rcases hk b _ es v' hb with⟨_,h2⟩|⟨rfl,_,_,_⟩
   ·exact h.inj a b _ cs t es v' hi h2
   ·rfl
end
theorem Qm {g:Nat} {t:Cj}:∀(vs:List Ak) (o:Nat) (w:Aj) (cs:Array Ak),w.heap[g]? =Af (Cn cs t (0,0))->o+vs.length<=cs.size->
  (w.setCells g o vs).heap[g]? =Af (Cn (cs.toList.take o++vs++cs.toList.drop (o+vs.length)).toArray t (0,0))
 |[],o,w,cs,hg,_=>by simp[World.setCells,hg]
 |v::r,o,w,cs,hg,hl=>by
  simp only[En]at hl;rw[World.setCells,Qm r (o+1) _ _ (Jv v hg) Hu]
  congr 2
  apply Array.ext';simp only[Array.toList_setIfInBounds,En]
  have hs:cs.toList.set o v=cs.toList.take o++v::cs.toList.drop (o+1):=by
   rw[List.set_eq_take_append_cons_drop,Hd Hu]
  have e1:(cs.toList.set o v).take (o+1)=cs.toList.take o++[v]:=by
   rw[hs,List.take_append,List.length_take,Nat.min_eq_left Hu,List.take_take,Nat.min_eq_right Gu,show o+1-o=1 by omega];rfl
  have e2:(cs.toList.set o v).drop (o+1+r.length)=cs.toList.drop (o+(r.length+1)):=by
   rw[List.drop_set_of_lt Gu];congr 1;omega
  rw[e1,e2];simp
theorem Zr {g:Nat} {t:Cj} {w:Aj} {cs:Array Ak} (hg:w.heap[g]? =Af (Cn cs t (0,0))) (vs:List Ak) (hl:vs.length=cs.size):
  (w.setCells g 0 vs).heap[g]? =Af (Cn vs.toArray t (0,0)):=by
 rw[Qm vs 0 w cs hg Gu];have:List.drop (0+vs.length) cs.toList=[]:=List.drop_of_length_le Hu;rw[this];simp
theorem Oj {B:Nat} {a w:Aj} (h:Below B a w) {g:Nat} (hg:B<=g):∀(vs:List Ak) (o:Nat),Below B a (w.setCells g o vs):=by
 intro vs
 induction vs generalizing w with
 |nil=>intro o;exact h
 |cons v r ih=>intro o;exact ih (h.setCell (p:=⟨g,o,Ae⟩) hg v) (o+1)
section
variable {w wr:Aj} {l:List (Nat×Array Ak×Cj)}
theorem Bx.range (h:Bx w l wr) (i:Nat) {g:Nat} {cs:Array Ak} {t:Cj} (hi:l[i]? =Af (g,cs,t)):wr.rangeAt g 0 cs.toList:=λj v hj=>by
 rw[Bt,By wr g j cs t (0,0) (h.blk i g cs t hi)];simpa using hj
theorem Bx.there (h:Bx w l wr) (i:Nat) {g:Nat} {cs:Array Ak} {t:Cj} (hi:l[i]? =Af (g,cs,t)):wr.there g 0 cs.size:=λj hj=>by
 have hb:=h.blk i g cs t hi;rw[Bt,By wr g j cs t (0,0) hb];exact⟨by simp[hj],by simp[Dz,hb]⟩
theorem Bx.setAll (h:Bx w l wr) (i:Nat) {g:Nat} {cs:Array Ak} {t:Cj} (hi:l[i]? =Af (g,cs,t)) (vs:List Ak) (hl:vs.length=cs.size):
  Bx w (l.set i (g,vs.toArray,t)) (wr.setCells g 0 vs):=by
 have bv:i<l.length:=(Ax.1 hi).1
 have hk:∀(k g':Nat) (ds:Array Ak) (u:Cj),(l.set i (g,vs.toArray,t))[k]? =Af (g',ds,u)->(k≠i/\l[k]? =Af (g',ds,u))∨(k=i/\g'=g/\ds=vs.toArray/\u=t):=by
  intro k g' ds u hk;by_cases RP:k=i
  ·subst RP;rw[List.getElem?_set_self bv]at hk;simp at hk;exact .inr ⟨rfl,hk.1.symm,hk.2.1.symm,hk.2.2.symm⟩
  ·rw[List.getElem?_set_ne (Ne.symm RP)]at hk;exact .inl ⟨RP,hk⟩
 refine⟨Oj h.below (h.lo i g cs t hi) vs 0,?_,?_,?_⟩
 ·intro k g' ds u vc;rcases hk k g' ds u vc with⟨hne,h1⟩|⟨_,rfl,rfl,rfl⟩
  ·have DJ:g'≠g:=λe=>by subst e;exact hne (h.inj k i _ _ _ _ _ h1 hi)
   exact(World.heap_setCells_other wr g 0 vs (h.lt k h1) DJ).trans (h.blk k g' ds u h1)
  ·exact Zr (h.blk i _ cs _ hi) vs hl
 ·intro k g' ds u vc;rcases hk k g' ds u vc with⟨_,h1⟩|⟨_,rfl,_,_⟩
  ·exact h.lo k g' ds u h1
  ·exact h.lo i _ cs t hi
 ·intro a b g' ds u es v' ha hb;rcases hk a g' ds u ha with⟨h0,h1⟩|⟨rfl,rfl,_,_⟩
  ·rcases hk b g' es v' hb with⟨_,h2⟩|⟨rfl,rfl,_,_⟩
   ·exact h.inj a b g' ds u es v' h1 h2
   ·exact h.inj a b _ ds u cs t h1 hi
  ·rcases hk b _ es v' hb with⟨_,h2⟩|⟨rfl,_,_,_⟩
   ·exact h.inj a b _ cs t es v' hi h2
   ·rfl
end
theorem Mm {P:Program} {fn:Func} {s:Nat} {t:Cj} (hr:fn.results= #[.cell s t]) {tmps:Array Ak} {w:Aj} {g:Nat} {cs:Array Ak} {d:TypeDesc} (hs:tmps.getD s undef= .pointer (Af ⟨g,0,Ae⟩))
  (hc:w.rangeAt g 0 cs.toList) (hu:P.underlying t=Af d) (hd:d.isRow=true) (hi:(P.info? t).map (·.size)=Af cs.size):(results fn tmps).run P w= .ok (.agg cs) w:=by
 have h:=run_loadVar_mid (P:=P) w g 0 t cs.toList d hc hu hd (by simpa using hi);have e:tmps[s]?.getD undef= .pointer (Af ⟨g,0,Ae⟩):=by rw[<-hs];simp
 simp[results,hr,e,asAddr,h]
theorem Hj {P:Program} {fn:Func} {s u:Nat} {t:Cj} (hr:fn.results= #[.cell s t,.tmp u]) {tmps:Array Ak} {w:Aj} {g:Nat} {cs:Array Ak} {d:TypeDesc} (hs:tmps.getD s undef= .pointer (Af ⟨g,0,Ae⟩))
  (hc:w.rangeAt g 0 cs.toList) (hu:P.underlying t=Af d) (hd:d.isRow=true) (hi:(P.info? t).map (·.size)=Af cs.size):(results fn tmps).run P w= .ok (.tuple #[.agg cs,tmps.getD u undef]) w:=by
 have h:=run_loadVar_mid (P:=P) w g 0 t cs.toList d hc hu hd (by simpa using hi);have e:tmps[s]?.getD undef= .pointer (Af ⟨g,0,Ae⟩):=by rw[<-hs];simp
 simp[results,hr,e,asAddr,h]
section
variable {P:Program} {ops:Array Oper} {Q:Exit->Act->Aj->Prop} {md:Region.Mode} {S:Aj->Prop} {oi:Oper} {v:Ak} {fuel:Nat} {listed l':Array Bool} {a a':Act} {w:Aj}
theorem Kg (i:Nat) (h:wpAnyH P md ops Q S fuel l' a' w) (hi:ops[i]? =Af oi:=by exact rfl)
  (hy:Dy oi (yielded ops a.tmps)=true/\(∀w,S w->(execOp a.eval oi).run P w= .ok (.value v) w)∨Dy oi (yielded ops a.tmps)=false/\v=undef:=by
   first
    |exact .inr ⟨by rfl,rfl⟩
    |refine .inl ⟨by rfl,?_⟩
     intro w0 hSw
     first|have hSw:=HSO.out _ hSw|(try dsimp only at hSw)
     go_split_ands;go_simp
     try with_reducible rfl)
  (hl:listed.setIfInBounds i true=l':=by
   (try simp only[Ch,Cf,Cg])
   exact rfl)
  (ha:a.put oi.dst v=a':=by
   (try simp only[Act.put,Ce,Cc,Cd,Ch,Cf,Cg])
   exact rfl)
  (hS:S w:=by exact hS)
  (hs:Region.noSelect ops=true:=by kernel_rfl) (hf:Region.free md ops listed i=true:=by kernel_rfl) (hr:(Region.ready md ops listed).contains i=true:=by kernel_rfl)
  (hQ:∀c a w,Q (.panic c) (a.put oi.dst v) w->Q (.panic c) a w:=by exact λ_ _ _ h=>h):wpAnyH P md ops Q S (fuel+1) listed a w:=by
 subst hl ha;exact wpAnyH_take hi hs hf hr hQ (hy.imp id id) hS h
theorem rdy (i:Nat) (h:∀K':Act->Aj->Prop,Shut (∀a w,S w->(S w->wpAnyH P md ops Q S fuel (listed.setIfInBounds i true) a w)->K' a w)->if Dy oi (yielded ops a.tmps)=true then Oper.wp P oi a w K' Q else K' (a.put oi.dst undef) w)
  (hi:ops[i]? =Af oi:=by exact rfl) (hr:Region.ready md ops listed=[i]:=by kernel_rfl):wpAnyH P md ops Q S (fuel+1) listed a w:=
 wpAnyH_ready hr Gx (AllReadyH.cons hi h AllReadyH.nil)
end
theorem Bx.b {w wr:Aj} {l:List (Nat×Array Ak×Cj)} (h:Bx w l wr) (i:Nat) {g:Nat} {cs:Array Ak} {t:Cj} (e:l[i]? =Af (g,cs,t):=by exact rfl):wr.heap[g]? =Af (Cn cs t (0,0)):=h.blk i g cs t e
theorem Og (C:Aj->Prop):∃S:Aj->Prop,S=C/\Hid (∀W,S W->C W):=⟨C,rfl,λ_ h=>h⟩
section
variable {P:Program} {ops:Array Oper} {Q:Exit->Act->Aj->Prop} {md:Region.Mode} {S:Aj->Prop} {o1 o2 o3 o4:Oper} {v1 v2 v3 v4:Ak} {fuel:Nat} {l0 l1 l2 l3 l4:Array Bool} {a0 a1 a2 a3 a4:Act} {w:Aj}
theorem Qp (i1 i2:Nat) (h:wpAnyH P md ops Q S fuel l2 a2 w)
  (zi:ops[i1]? =Af o1:=by exact rfl)
  (yf:Dy o1 (yielded ops a0.tmps)=true/\(∀w,S w->(execOp a0.eval o1).run P w= .ok (.value v1) w)∨Dy o1 (yielded ops a0.tmps)=false/\v1=undef:=by
   first
    |exact .inr ⟨by rfl,rfl⟩
    |refine .inl ⟨by rfl,?_⟩
     intro w0 hSw
     first|have hSw:=HSO.out _ hSw|(try dsimp only at hSw)
     go_split_ands;go_simp
     try with_reducible rfl)
  (gn:l0.setIfInBounds i1 true=l1:=by
   (try simp only[Ch,Cf,Cg])
   exact rfl)
  (DB:a0.put o1.dst v1=a1:=by
   (try simp only[Act.put,Ce,Cc,Cd,Ch,Cf,Cg])
   exact rfl)
  (ze:Region.free md ops l0 i1=true:=by kernel_rfl) (ui:(Region.ready md ops l0).contains i1=true:=by kernel_rfl)
  (GM:∀c a w,Q (.panic c) (a.put o1.dst v1) w->Q (.panic c) a w:=by exact λ_ _ _ h=>h)
  (BM:ops[i2]? =Af o2:=by exact rfl)
  (yn:Dy o2 (yielded ops a1.tmps)=true/\(∀w,S w->(execOp a1.eval o2).run P w= .ok (.value v2) w)∨Dy o2 (yielded ops a1.tmps)=false/\v2=undef:=by
   first
    |exact .inr ⟨by rfl,rfl⟩
    |refine .inl ⟨by rfl,?_⟩
     intro w0 hSw
     first|have hSw:=HSO.out _ hSw|(try dsimp only at hSw)
     go_split_ands;go_simp
     try with_reducible rfl)
  (oa:l1.setIfInBounds i2 true=l2:=by
   (try simp only[Ch,Cf,Cg])
   exact rfl)
  (S9:a1.put o2.dst v2=a2:=by
   (try simp only[Act.put,Ce,Cc,Cd,Ch,Cf,Cg])
   exact rfl)
  (zf:Region.free md ops l1 i2=true:=by kernel_rfl) (ii:(Region.ready md ops l1).contains i2=true:=by kernel_rfl)
  (sc:∀c a w,Q (.panic c) (a.put o2.dst v2) w->Q (.panic c) a w:=by exact λ_ _ _ h=>h)
  (hS:S w:=by exact hS) (hs:Region.noSelect ops=true:=by kernel_rfl):wpAnyH P md ops Q S (fuel+2) l0 a0 w:=
 Kg i1 (Kg i2 (h) BM yn oa S9 hS hs zf ii sc) zi yf gn DB hS hs ze ui GM
theorem Oe (i1 i2 i3:Nat) (h:wpAnyH P md ops Q S fuel l3 a3 w)
  (zi:ops[i1]? =Af o1:=by exact rfl)
  (yf:Dy o1 (yielded ops a0.tmps)=true/\(∀w,S w->(execOp a0.eval o1).run P w= .ok (.value v1) w)∨Dy o1 (yielded ops a0.tmps)=false/\v1=undef:=by
   first
    |exact .inr ⟨by rfl,rfl⟩
    |refine .inl ⟨by rfl,?_⟩
     intro w0 hSw
     first|have hSw:=HSO.out _ hSw|(try dsimp only at hSw)
     go_split_ands;go_simp
     try with_reducible rfl)
  (gn:l0.setIfInBounds i1 true=l1:=by
   (try simp only[Ch,Cf,Cg])
   exact rfl)
  (DB:a0.put o1.dst v1=a1:=by
   (try simp only[Act.put,Ce,Cc,Cd,Ch,Cf,Cg])
   exact rfl)
  (ze:Region.free md ops l0 i1=true:=by kernel_rfl) (ui:(Region.ready md ops l0).contains i1=true:=by kernel_rfl)
  (GM:∀c a w,Q (.panic c) (a.put o1.dst v1) w->Q (.panic c) a w:=by exact λ_ _ _ h=>h)
  (BM:ops[i2]? =Af o2:=by exact rfl)
  (yn:Dy o2 (yielded ops a1.tmps)=true/\(∀w,S w->(execOp a1.eval o2).run P w= .ok (.value v2) w)∨Dy o2 (yielded ops a1.tmps)=false/\v2=undef:=by
   first
    |exact .inr ⟨by rfl,rfl⟩
    |refine .inl ⟨by rfl,?_⟩
     intro w0 hSw
     first|have hSw:=HSO.out _ hSw|(try dsimp only at hSw)
     go_split_ands;go_simp
     try with_reducible rfl)
  (oa:l1.setIfInBounds i2 true=l2:=by
   (try simp only[Ch,Cf,Cg])
   exact rfl)
  (S9:a1.put o2.dst v2=a2:=by
   (try simp only[Act.put,Ce,Cc,Cd,Ch,Cf,Cg])
   exact rfl)
  (zf:Region.free md ops l1 i2=true:=by kernel_rfl) (ii:(Region.ready md ops l1).contains i2=true:=by kernel_rfl)
  (sc:∀c a w,Q (.panic c) (a.put o2.dst v2) w->Q (.panic c) a w:=by exact λ_ _ _ h=>h)
  (RN:ops[i3]? =Af o3:=by exact rfl)
  (NF:Dy o3 (yielded ops a2.tmps)=true/\(∀w,S w->(execOp a2.eval o3).run P w= .ok (.value v3) w)∨Dy o3 (yielded ops a2.tmps)=false/\v3=undef:=by
   first
    |exact .inr ⟨by rfl,rfl⟩
    |refine .inl ⟨by rfl,?_⟩
     intro w0 hSw
     first|have hSw:=HSO.out _ hSw|(try dsimp only at hSw)
     go_split_ands;go_simp
     try with_reducible rfl)
  (BP:l2.setIfInBounds i3 true=l3:=by
   (try simp only[Ch,Cf,Cg])
   exact rfl)
  (ha3:a2.put o3.dst v3=a3:=by
   (try simp only[Act.put,Ce,Cc,Cd,Ch,Cf,Cg])
   exact rfl)
  (VH:Region.free md ops l2 i3=true:=by kernel_rfl) (FO:(Region.ready md ops l2).contains i3=true:=by kernel_rfl)
  (hQ3:∀c a w,Q (.panic c) (a.put o3.dst v3) w->Q (.panic c) a w:=by exact λ_ _ _ h=>h)
  (hS:S w:=by exact hS) (hs:Region.noSelect ops=true:=by kernel_rfl):wpAnyH P md ops Q S (fuel+3) l0 a0 w:=
 Kg i1 (Kg i2 (Kg i3 (h) RN NF BP ha3 hS hs VH FO hQ3) BM yn oa S9 hS hs zf ii sc) zi yf gn DB hS hs ze ui GM
theorem Hh (i1 i2 i3 i4:Nat) (h:wpAnyH P md ops Q S fuel l4 a4 w)
  (zi:ops[i1]? =Af o1:=by exact rfl)
  (yf:Dy o1 (yielded ops a0.tmps)=true/\(∀w,S w->(execOp a0.eval o1).run P w= .ok (.value v1) w)∨Dy o1 (yielded ops a0.tmps)=false/\v1=undef:=by
   first
    |exact .inr ⟨by rfl,rfl⟩
    |refine .inl ⟨by rfl,?_⟩
     intro w0 hSw
     first|have hSw:=HSO.out _ hSw|(try dsimp only at hSw)
     go_split_ands;go_simp
     try with_reducible rfl)
  (gn:l0.setIfInBounds i1 true=l1:=by
   (try simp only[Ch,Cf,Cg])
   exact rfl)
  (DB:a0.put o1.dst v1=a1:=by
   (try simp only[Act.put,Ce,Cc,Cd,Ch,Cf,Cg])
   exact rfl)
  (ze:Region.free md ops l0 i1=true:=by kernel_rfl) (ui:(Region.ready md ops l0).contains i1=true:=by kernel_rfl)
  (GM:∀c a w,Q (.panic c) (a.put o1.dst v1) w->Q (.panic c) a w:=by exact λ_ _ _ h=>h)
  (BM:ops[i2]? =Af o2:=by exact rfl)
  (yn:Dy o2 (yielded ops a1.tmps)=true/\(∀w,S w->(execOp a1.eval o2).run P w= .ok (.value v2) w)∨Dy o2 (yielded ops a1.tmps)=false/\v2=undef:=by
   first
    |exact .inr ⟨by rfl,rfl⟩
    |refine .inl ⟨by rfl,?_⟩
     intro w0 hSw
     first|have hSw:=HSO.out _ hSw|(try dsimp only at hSw)
     go_split_ands;go_simp
     try with_reducible rfl)
  (oa:l1.setIfInBounds i2 true=l2:=by
   (try simp only[Ch,Cf,Cg])
   exact rfl)
  (S9:a1.put o2.dst v2=a2:=by
   (try simp only[Act.put,Ce,Cc,Cd,Ch,Cf,Cg])
   exact rfl)
  (zf:Region.free md ops l1 i2=true:=by kernel_rfl) (ii:(Region.ready md ops l1).contains i2=true:=by kernel_rfl)
  (sc:∀c a w,Q (.panic c) (a.put o2.dst v2) w->Q (.panic c) a w:=by exact λ_ _ _ h=>h)
  (RN:ops[i3]? =Af o3:=by exact rfl)
  (NF:Dy o3 (yielded ops a2.tmps)=true/\(∀w,S w->(execOp a2.eval o3).run P w= .ok (.value v3) w)∨Dy o3 (yielded ops a2.tmps)=false/\v3=undef:=by
   first
    |exact .inr ⟨by rfl,rfl⟩
    |refine .inl ⟨by rfl,?_⟩
     intro w0 hSw
     first|have hSw:=HSO.out _ hSw|(try dsimp only at hSw)
     go_split_ands;go_simp
     try with_reducible rfl)
  (BP:l2.setIfInBounds i3 true=l3:=by
   (try simp only[Ch,Cf,Cg])
   exact rfl)
  (ha3:a2.put o3.dst v3=a3:=by
   (try simp only[Act.put,Ce,Cc,Cd,Ch,Cf,Cg])
   exact rfl)
  (VH:Region.free md ops l2 i3=true:=by kernel_rfl) (FO:(Region.ready md ops l2).contains i3=true:=by kernel_rfl)
  (hQ3:∀c a w,Q (.panic c) (a.put o3.dst v3) w->Q (.panic c) a w:=by exact λ_ _ _ h=>h)
  (U2:ops[i4]? =Af o4:=by exact rfl)
  (hy4:Dy o4 (yielded ops a3.tmps)=true/\(∀w,S w->(execOp a3.eval o4).run P w= .ok (.value v4) w)∨Dy o4 (yielded ops a3.tmps)=false/\v4=undef:=by
   first
    |exact .inr ⟨by rfl,rfl⟩
    |refine .inl ⟨by rfl,?_⟩
     intro w0 hSw
     first|have hSw:=HSO.out _ hSw|(try dsimp only at hSw)
     go_split_ands;go_simp
     try with_reducible rfl)
  (hl4:l3.setIfInBounds i4 true=l4:=by
   (try simp only[Ch,Cf,Cg])
   exact rfl)
  (ha4:a3.put o4.dst v4=a4:=by
   (try simp only[Act.put,Ce,Cc,Cd,Ch,Cf,Cg])
   exact rfl)
  (hf4:Region.free md ops l3 i4=true:=by kernel_rfl) (hr4:(Region.ready md ops l3).contains i4=true:=by kernel_rfl)
  (hQ4:∀c a w,Q (.panic c) (a.put o4.dst v4) w->Q (.panic c) a w:=by exact λ_ _ _ h=>h)
  (hS:S w:=by exact hS) (hs:Region.noSelect ops=true:=by kernel_rfl):wpAnyH P md ops Q S (fuel+4) l0 a0 w:=
 Kg i1 (Kg i2 (Kg i3 (Kg i4 (h) U2 hy4 hl4 ha4 hS hs hf4 hr4 hQ4) RN NF BP ha3 hS hs VH FO hQ3) BM yn oa S9 hS hs zf ii sc) zi yf gn DB hS hs ze ui GM
end
theorem Jn (k c:Int) (w:Aj):
  Al Do 113 #[.agg #[Aa Ac k,c]] w (Gy (Aa Ab (ec (okL k c) 1)) w):=by
 go_enter Tryz.func113,Tryz.ntmps113;go_wp2_with fail
 all_goals go_ret
 all_goals refine⟨Iw ?_,(Ag _ _).alloc (Am _) _⟩
 all_goals first|rw[Bw1 Gu,Qq]|rw[Mu.2 Gu,Ls]
theorem Ol (x y:Int) (w:Aj):
  Al Do 223 #[.agg #[x,y]] w (Gy (Aa Ab (ec (okP x y) 1)) w):=by
 go_enter Tryz.func223,Tryz.ntmps223;go_wp2_with fail
 all_goals go_ret
 all_goals refine⟨Iw ?_,(Ag _ _).alloc (Am _) _⟩
 all_goals first|rw[Bw2 Gu,Qq]|rw[Wi.2 Gu,Ls]
theorem Vy (k x y:Int) (w:Aj) (h:okP x y=true):
  Al Do 264 #[Aa Ac k,.agg #[x,y]] w (Gy (Aa Ab (Mp k x y)) w):=by
 obtain⟨h1,h2,h3,h4⟩:=Wi.1 h;obtain⟨R,hR⟩:=ey (Mp k x y);rw[hR];have HR:=Ah hR;clear hR h;go_enter Tryz.func264,Tryz.ntmps264;go_wp2_with fail
 all_goals go_ret
 all_goals refine⟨Iw ?_,(Ag _ _).alloc (Am _) _⟩
 all_goals rw[<-HR.out];unfold Mp
 all_goals simp_all
def fnV (f:FuncId):Ak:= .func (.func f) #[] #[]
def fS (p q:Ak):Ak:= .agg #[.nilFunc,.nilFunc,.nilFunc,fnV 263,fnV 265,fnV 266,fnV 267,fnV 268,fnV 269,
 fnV 270,fnV 271,.func (.func 272) #[] #[p],fnV 273,fnV 274,.func (.func 275) #[] #[q]]
theorem Wr (w:Aj):Al Do 224 #[] w λe w'=>∃p q,e= .returned (fS p q)/\Below w.heap.size w w':=by
 have H:=Bx.start w;go_enter Tryz.func224,Tryz.ntmps224;go_upto_region 1 with fail;obtain⟨N,hN⟩:=ez w.heap.size;rw[<-hN];have H:=H.new (#[.nilFunc,.nilFunc,.nilFunc,.nilFunc,.nilFunc,.nilFunc,.nilFunc,.nilFunc,.nilFunc,.nilFunc,.nilFunc,.nilFunc,.nilFunc,.nilFunc,.nilFunc]) 355 hN.symm;clear hN;go_upto_region 2 with go_region;obtain⟨P,hP⟩:=ez (w.heap.size+1);rw[<-hP];have H:=H.new #[Aa Ac 0,Aa Ac 2,Aa Ac 1,Aa Ac 4,Aa Ac 3] 389 (N:=P) (by simp[hP]);generalize (w.alloc _).alloc _=W at H⊢;have a0:=H.b 0;have fz:∀j,W.frozen? ⟨N,j,Ae⟩=false:=λj=>by simp[Dz,a0]
 have cz:=H.range 0 rfl;unfold World.rangeAt at cz;have c0:=cz 0 _ rfl;have f0:=fz 0;have c1:=cz 1 _ rfl;have f1:=fz 1;have c2:=cz 2 _ rfl;have f2:=fz 2;have c3:=cz 3 _ rfl;have f3:=fz 3;have c4:=cz 4 _ rfl;have f4:=fz 4;have c5:=cz 5 _ rfl;have f5:=fz 5;have c6:=cz 6 _ rfl;have f6:=fz 6;have c7:=cz 7 _ rfl;have f7:=fz 7;have c8:=cz 8 _ rfl;have f8:=fz 8;have c9:=cz 9 _ rfl;have f9:=fz 9;have c10:=cz 10 _ rfl;have f10:=fz 10;have c11:=cz 11 _ rfl;have f11:=fz 11;have c12:=cz 12 _ rfl;have f12:=fz 12;have c13:=cz 13 _ rfl;have f13:=fz 13;have c14:=cz 14 _ rfl;have f14:=fz 14;simp only[Bt]at c0 c1 c2 c3 c4 c5 c6 c7 c8 c9 c10 c11 c12 c13 c14;have H:=H.setAll 0 rfl [.nilFunc,.nilFunc,.nilFunc,fnV 263,fnV 265,fnV 266,fnV 267,fnV 268,fnV 269,
 fnV 270,fnV 271,.func (.func 272) #[] #[.pointer (Af ⟨P,0,Ae⟩)],fnV 273,fnV 274,.func (.func 275) #[] #[.pointer (Af ⟨P,0,Ae⟩)]] rfl
 have HH:=Ah H;clear hP a0 fz cz H;go_wp2_with go_region;exact Ai (Mm rfl rfl (HH.out.range 0 rfl) Tryz.underlying355 rfl Gw) rfl ⟨_,_,rfl,HH.out.below⟩
theorem vM (x y:Int) (w:Aj) (h:okP x y=true):Al Do 263 #[.agg #[x,y]] w (Gy (Aa Ab (Mp 1 x y)) w):=by
 have H:=Ah h;clear h;go_enter Tryz.func263,Tryz.ntmps263;go_wp2_with fail;refine(Vy 1 x y _ H.out).mono ?_;rintro e w2 ⟨rfl,hb⟩;have hb':Below w.heap.size w w2:=((Ag _ _).alloc (Am _) _).trans (hb.mono Gx);go_wp2;go_ret;exact⟨rfl,hb'⟩
theorem vN (x y:Int) (w:Aj) (h:okP x y=true):Al Do 267 #[.agg #[x,y]] w (Gy (Aa Ab (Mp 2 x y)) w):=by
 have H:=Ah h;clear h;go_enter Tryz.func267,Tryz.ntmps267;go_wp2_with fail;refine(Vy 2 x y _ H.out).mono ?_;rintro e w2 ⟨rfl,hb⟩;have hb':Below w.heap.size w w2:=((Ag _ _).alloc (Am _) _).trans (hb.mono Gx);go_wp2;go_ret;exact⟨rfl,hb'⟩
theorem vO (x y:Int) (w:Aj) (h:okP x y=true):Al Do 270 #[.agg #[x,y]] w (Gy (Aa Ab (Mp 3 x y)) w):=by
 have H:=Ah h;clear h;go_enter Tryz.func270,Tryz.ntmps270;go_wp2_with fail;refine(Vy 3 x y _ H.out).mono ?_;rintro e w2 ⟨rfl,hb⟩;have hb':Below w.heap.size w w2:=((Ag _ _).alloc (Am _) _).trans (hb.mono Gx);go_wp2;go_ret;exact⟨rfl,hb'⟩
theorem vP (x y:Int) (w:Aj) (h:okP x y=true):Al Do 273 #[.agg #[x,y]] w (Gy (Aa Ab (Mp 4 x y)) w):=by
 have H:=Ah h;clear h;go_enter Tryz.func273,Tryz.ntmps273;go_wp2_with fail;refine(Vy 4 x y _ H.out).mono ?_;rintro e w2 ⟨rfl,hb⟩;have hb':Below w.heap.size w w2:=((Ag _ _).alloc (Am _) _).trans (hb.mono Gx);go_wp2;go_ret;exact⟨rfl,hb'⟩
theorem Ay9 (p q:Ak) (w:Aj):(Instr.index 355 (.agg #[.nilFunc,.nilFunc,.nilFunc,.func (.func 263) #[] #[],.func (.func 265) #[] #[],.func (.func 266) #[] #[],.func (.func 267) #[] #[],.func (.func 268) #[] #[],.func (.func 269) #[] #[],.func (.func 270) #[] #[],.func (.func 271) #[] #[],.func (.func 272) #[] #[p],.func (.func 273) #[] #[],.func (.func 274) #[] #[],.func (.func 275) #[] #[q]]) (Aa Ac 1)).run Do w= .ok (.agg #[.func (.func 263) #[] #[],.func (.func 265) #[] #[],.func (.func 266) #[] #[]]) w:=Gw
theorem Az0 (p q:Ak) (w:Aj):(Instr.index 355 (.agg #[.nilFunc,.nilFunc,.nilFunc,.func (.func 263) #[] #[],.func (.func 265) #[] #[],.func (.func 266) #[] #[],.func (.func 267) #[] #[],.func (.func 268) #[] #[],.func (.func 269) #[] #[],.func (.func 270) #[] #[],.func (.func 271) #[] #[],.func (.func 272) #[] #[p],.func (.func 273) #[] #[],.func (.func 274) #[] #[],.func (.func 275) #[] #[q]]) (Aa Ac 2)).run Do w= .ok (.agg #[.func (.func 267) #[] #[],.func (.func 268) #[] #[],.func (.func 269) #[] #[]]) w:=Gw
theorem Az1 (p q:Ak) (w:Aj):(Instr.index 355 (.agg #[.nilFunc,.nilFunc,.nilFunc,.func (.func 263) #[] #[],.func (.func 265) #[] #[],.func (.func 266) #[] #[],.func (.func 267) #[] #[],.func (.func 268) #[] #[],.func (.func 269) #[] #[],.func (.func 270) #[] #[],.func (.func 271) #[] #[],.func (.func 272) #[] #[p],.func (.func 273) #[] #[],.func (.func 274) #[] #[],.func (.func 275) #[] #[q]]) (Aa Ac 3)).run Do w= .ok (.agg #[.func (.func 270) #[] #[],.func (.func 271) #[] #[],.func (.func 272) #[] #[p]]) w:=Gw
theorem Az2 (p q:Ak) (w:Aj):(Instr.index 355 (.agg #[.nilFunc,.nilFunc,.nilFunc,.func (.func 263) #[] #[],.func (.func 265) #[] #[],.func (.func 266) #[] #[],.func (.func 267) #[] #[],.func (.func 268) #[] #[],.func (.func 269) #[] #[],.func (.func 270) #[] #[],.func (.func 271) #[] #[],.func (.func 272) #[] #[p],.func (.func 273) #[] #[],.func (.func 274) #[] #[],.func (.func 275) #[] #[q]]) (Aa Ac 4)).run Do w= .ok (.agg #[.func (.func 273) #[] #[],.func (.func 274) #[] #[],.func (.func 275) #[] #[q]]) w:=Gw
theorem dG (a b c:Ak) (w:Aj):(Instr.field 354 (.agg #[a,b,c]) 0).run Do w= .ok a w:=Gw
def fV (k c x y:Int):Int:=if okL k c&&okP x y then Oz k c x y else 0
theorem fX (k c x y:Int) (w:Aj) (di:0<=k):Al Do 168 #[.agg #[Aa Ac k,c],.agg #[x,y]] w (Gy (Aa Ab (fV k c x y)) w):=by
 obtain⟨R,hR⟩:=ey (fV k c x y);rw[hR];have HR:=Ah hR;have H:=((Bx.start w).new #[Aa Ac k,c] 48 rfl).new #[x,y] 282 (N:=w.heap.size+1) Gx;clear hR;go_enter Tryz.func168,Tryz.ntmps168;go_upto_region 1 with fail;generalize (w.alloc _).alloc _=W at H⊢;generalize w.heap.size=N at H⊢;obtain⟨⟨a0,a1⟩,_⟩:=Hn (H.b 0)
 cases hL:okL k c
 ·have HL:=Ah hL;have am:R=0:=by rw[<-HR.out];unfold fV;rw[HL.out];rfl
  clear hL;go_wp2_with fail;refine(Jn k c _).mono ?_;rintro e w2 ⟨rfl,hb⟩;rw[HL.out,Qq];have H2:=H.call hb;clear a0 a1 hb;go_wp2;go_ret;exact⟨Iw am.symm,H2.below⟩
 ·cases hP:okP x y
  ·have HL:=Ah hL;have HP:=Ah hP;have am:R=0:=by rw[<-HR.out];unfold fV;rw[HP.out,Bool.and_false];rfl
   clear hL hP;go_wp2_with fail;refine(Jn k c _).mono ?_;rintro e w2 ⟨rfl,hb⟩;rw[HL.out,Ls];have H2:=H.call hb;obtain⟨⟨p0,p1⟩,_⟩:=Hn (H2.b 1);clear a0 a1 hb H;go_wp2_with fail;refine(Ol x y _).mono ?_;rintro e w3 ⟨rfl,hb⟩;rw[HP.out,Qq];have H3:=H2.call hb;clear p0 p1 hb;go_wp2;go_ret;exact⟨Iw am.symm,H3.below⟩
  ·have HL:=Ah hL;have HP:=Ah hP;have am:R=Oz k c x y:=by rw[<-HR.out];unfold fV;rw[HL.out,HP.out];rfl
   have HF:=Ah am;obtain⟨l1,l2,l3,l4⟩:=Mu.1 hL;clear hL hP am;go_wp2_with fail;refine(Jn k c _).mono ?_;rintro e w2 ⟨rfl,hb⟩;rw[HL.out,Ls];have H2:=H.call hb;obtain⟨⟨p0,p1⟩,_⟩:=Hn (H2.b 1);clear a0 a1 hb H;go_wp2_with fail;refine(Ol x y _).mono ?_;rintro e w3 ⟨rfl,hb⟩;rw[HP.out,Ls];have H3:=H2.call hb;obtain⟨⟨a0,a1⟩,_⟩:=Hn (H3.b 0);obtain⟨⟨wi,wj⟩,_⟩:=Hn (H3.b 1);clear p0 p1 hb H2;have h4:k=1∨k=2∨k=3∨k=4:=Gu;rcases h4 with rfl|rfl|rfl|rfl
   ·obtain⟨A,hA⟩:=ey (Mp 1 x y);have EU:R=if A<2*c then-1 else if 2*c<A then 1 else 0:=by rw[HF.out];unfold Oz;rw[hA]
    have QA:=Ah EU;have HA:=Ah hA;have zm:=Ay9;have LN:=dG;clear hA EU;go_upto_region 3 with fail
    go_region_held3 (λw'=>w'.cell? ⟨N,0,Ae⟩=Af (Aa Ac 1)/\w'.cell? ⟨N+1,0,Ae⟩=Af (Aa Ab x)/\w'.cell? ⟨N+1,1,Ae⟩=Af (Aa Ab y))
     (first|exact⟨a0,wi,wj⟩|go_keep)
     (first
      |(go_at_call 224;(with_reducible refine(Wr _).mono ?_);rintro e w4 ⟨p,q,rfl,ct⟩;unfold fS fnV;have H3:=H3.call (Hk ct);have a0:=Gv (Hk ct) a0;have a1:=Gv (Hk ct) a1;have wi:=Gv (Hk ct) wi;have wj:=Gv (Hk ct) wj)
      |(go_at_call 263;(with_reducible refine(vM x y _ HP.out).mono ?_);rintro e w5 ⟨rfl,da⟩;rw[HA.out];have H3:=H3.call da;have a0:=Gv da a0;have a1:=Gv da a1;have wi:=Gv da wi;have wj:=Gv da wj)
      |fail)
    go_wp2_with fail
    all_goals go_ret
    all_goals refine⟨Iw ?_,H3.below⟩
    all_goals rw[QA.out]
    ·rw[Hd Gu]
    ·rw[Gz Gu,Hd Gu]
    ·rw[Gz Gu,Gz Gu]
   ·obtain⟨A,hA⟩:=ey (Mp 2 x y);have EU:R=if A<2*c then-1 else if 2*c<A then 1 else 0:=by rw[HF.out];unfold Oz;rw[hA]
    have QA:=Ah EU;have HA:=Ah hA;have zm:=Az0;have LN:=dG;clear hA EU;go_upto_region 3 with fail
    go_region_held3 (λw'=>w'.cell? ⟨N,0,Ae⟩=Af (Aa Ac 2)/\w'.cell? ⟨N+1,0,Ae⟩=Af (Aa Ab x)/\w'.cell? ⟨N+1,1,Ae⟩=Af (Aa Ab y))
     (first|exact⟨a0,wi,wj⟩|go_keep)
     (first
      |(go_at_call 224;(with_reducible refine(Wr _).mono ?_);rintro e w4 ⟨p,q,rfl,ct⟩;unfold fS fnV;have H3:=H3.call (Hk ct);have a0:=Gv (Hk ct) a0;have a1:=Gv (Hk ct) a1;have wi:=Gv (Hk ct) wi;have wj:=Gv (Hk ct) wj)
      |(go_at_call 267;(with_reducible refine(vN x y _ HP.out).mono ?_);rintro e w5 ⟨rfl,da⟩;rw[HA.out];have H3:=H3.call da;have a0:=Gv da a0;have a1:=Gv da a1;have wi:=Gv da wi;have wj:=Gv da wj)
      |fail)
    go_wp2_with fail
    all_goals go_ret
    all_goals refine⟨Iw ?_,H3.below⟩
    all_goals rw[QA.out]
    ·rw[Hd Gu]
    ·rw[Gz Gu,Hd Gu]
    ·rw[Gz Gu,Gz Gu]
   ·obtain⟨A,hA⟩:=ey (Mp 3 x y);have EU:R=if A<2*c then-1 else if 2*c<A then 1 else 0:=by rw[HF.out];unfold Oz;rw[hA]
    have QA:=Ah EU;have HA:=Ah hA;have zm:=Az1;have LN:=dG;clear hA EU;go_upto_region 3 with fail
    go_region_held3 (λw'=>w'.cell? ⟨N,0,Ae⟩=Af (Aa Ac 3)/\w'.cell? ⟨N+1,0,Ae⟩=Af (Aa Ab x)/\w'.cell? ⟨N+1,1,Ae⟩=Af (Aa Ab y))
     (first|exact⟨a0,wi,wj⟩|go_keep)
     (first
      |(go_at_call 224;(with_reducible refine(Wr _).mono ?_);rintro e w4 ⟨p,q,rfl,ct⟩;unfold fS fnV;have H3:=H3.call (Hk ct);have a0:=Gv (Hk ct) a0;have a1:=Gv (Hk ct) a1;have wi:=Gv (Hk ct) wi;have wj:=Gv (Hk ct) wj)
      |(go_at_call 270;(with_reducible refine(vO x y _ HP.out).mono ?_);rintro e w5 ⟨rfl,da⟩;rw[HA.out];have H3:=H3.call da;have a0:=Gv da a0;have a1:=Gv da a1;have wi:=Gv da wi;have wj:=Gv da wj)
      |fail)
    go_wp2_with fail
    all_goals go_ret
    all_goals refine⟨Iw ?_,H3.below⟩
    all_goals rw[QA.out]
    ·rw[Hd Gu]
    ·rw[Gz Gu,Hd Gu]
    ·rw[Gz Gu,Gz Gu]
   ·obtain⟨A,hA⟩:=ey (Mp 4 x y);have EU:R=if A<2*c then-1 else if 2*c<A then 1 else 0:=by rw[HF.out];unfold Oz;rw[hA]
    have QA:=Ah EU;have HA:=Ah hA;have zm:=Az2;have LN:=dG;clear hA EU;go_upto_region 3 with fail
    go_region_held3 (λw'=>w'.cell? ⟨N,0,Ae⟩=Af (Aa Ac 4)/\w'.cell? ⟨N+1,0,Ae⟩=Af (Aa Ab x)/\w'.cell? ⟨N+1,1,Ae⟩=Af (Aa Ab y))
     (first|exact⟨a0,wi,wj⟩|go_keep)
     (first
      |(go_at_call 224;(with_reducible refine(Wr _).mono ?_);rintro e w4 ⟨p,q,rfl,ct⟩;unfold fS fnV;have H3:=H3.call (Hk ct);have a0:=Gv (Hk ct) a0;have a1:=Gv (Hk ct) a1;have wi:=Gv (Hk ct) wi;have wj:=Gv (Hk ct) wj)
      |(go_at_call 273;(with_reducible refine(vP x y _ HP.out).mono ?_);rintro e w5 ⟨rfl,da⟩;rw[HA.out];have H3:=H3.call da;have a0:=Gv da a0;have a1:=Gv da a1;have wi:=Gv da wi;have wj:=Gv da wj)
      |fail)
    go_wp2_with fail
    all_goals go_ret
    all_goals refine⟨Iw ?_,H3.below⟩
    all_goals rw[QA.out]
    ·rw[Hd Gu]
    ·rw[Gz Gu,Hd Gu]
    ·rw[Gz Gu,Gz Gu]
def Ca3 (m:Int×Int×Int×Int):Ak:= .agg #[Aa Ab m.1,Aa Ab m.2.1,Aa Ab m.2.2.1,Aa Ab m.2.2.2]
structure Tn (w:Aj):Prop where
 lt:0<w.heap.size
 at':∀t,t<8->w.cell? ⟨0,t*4,Ae⟩=Af (Aa Ab (mat t).1)/\w.cell? ⟨0,t*4+1,Ae⟩=Af (Aa Ab (mat t).2.1)/\w.cell? ⟨0,t*4+2,Ae⟩=Af (Aa Ab (mat t).2.2.1)/\w.cell? ⟨0,t*4+3,Ae⟩=Af (Aa Ab (mat t).2.2.2)
theorem Tn.below {w w':Aj} (h:Tn w) (hb:Below w.heap.size w w'):Tn w':=
 ⟨Bq h.lt hb.size,λt ht=>by
  obtain⟨h1,h2,h3,h4⟩:=h.at' t ht;exact⟨Gv hb h1,Gv hb h2,Gv hb h3,Gv hb h4⟩⟩
theorem Rc (n:Int) (w:Aj):Al Do 172 #[n] w (Gy (.bool (!Xe n)) w):=by
 obtain⟨R,hR⟩:=ey ((!Xe n));rw[hR];have HR:=Ah hR;clear hR;go_enter Tryz.func172,Tryz.ntmps172;go_wp2_with fail
 all_goals go_ret
 all_goals refine⟨Rq ?_,Ag _ _⟩
 all_goals rw[<-HR.out];unfold Xe
 all_goals first
  |(rw[Ly (show¬-16384<=n by omega)];simp<;>omega)
  |(rw[Lb (show-16384<=n by omega)];by_cases h:n<=16384<;>simp[h]<;>omega)
theorem Cd1 {x y:Int}:((x+y).tmod 2=0)↔(x+y)%2=0:=by
 rw[Int.tmod_eq_emod];split<;>omega
theorem Bb2 (x:Int): -2<x.tmod 2/\x.tmod 2<2:=by
 rw[Int.tmod_eq_emod];split<;>omega
theorem Jo (t x y:Int) (w:Aj) (ht:0<=t/\t<=255):Al Do 117 #[.agg #[Aa Ac t,x,y]] w (Gy (Aa Ab (ec (okM t x y) 1)) w):=by
 obtain⟨R,hR⟩:=ey (okM t x y);rw[hR];have HR:=Ah hR;obtain⟨t0,t1⟩:=ht;have H:=(Bx.start w).new #[Aa Ac t,x,y] 30 rfl;have c1:Ab.wrap t=t:=Ca _ Gu;clear hR;go_enter Tryz.func117,Tryz.ntmps117;go_upto_region 1 with fail;generalize w.alloc _=W at H⊢;generalize w.heap.size=N at H⊢;obtain⟨⟨a0,a1,a2⟩,_⟩:=He (H.b 0);by_cases h8:t<8
 ·cases hx:Xe x
  ·have am:R=false:=by rw[<-HR.out];unfold okM;rw[hx];simp
   have HX:=Ah hx;clear hx;go_wp2_with fail;refine(Rc x _).mono ?_;rintro e w2 ⟨rfl,hb⟩;rw[HX.out];have H2:=H.call hb;clear a0 a1 a2 hb;go_wp2;go_ret;exact⟨Iw (by first|rfl|(rw[am];rfl)),H2.below⟩
  ·have HX:=Ah hx;obtain⟨x1,x2⟩: -16384<=x/\x<=16384:=by simpa[Xe]using hx
   clear hx
   cases hy:Xe y
   ·have am:R=false:=by rw[<-HR.out];unfold okM;rw[hy];simp
    have HY:=Ah hy;clear hy;go_wp2_with fail;refine(Rc x _).mono ?_;rintro e w2 ⟨rfl,hb⟩;rw[HX.out];have H2:=H.call hb;obtain⟨⟨b0,b1,b2⟩,_⟩:=He (H2.b 0);clear a0 a1 a2 hb;go_wp2_with fail;refine(Rc y _).mono ?_;rintro e w3 ⟨rfl,hb⟩;rw[HY.out];have H3:=H2.call hb;clear b0 b1 b2 hb;go_wp2;go_ret;exact⟨Iw (by first|rfl|(rw[am];rfl)),H3.below⟩
   ·have HY:=Ah hy;obtain⟨y1,y2⟩: -16384<=y/\y<=16384:=by simpa[Xe]using hy
    clear hy;have w1:Ab.wrap (x+y)=x+y:=Ca _ Gu;have XB:Ab.wrap ((x+y).tmod 2)=(x+y).tmod 2:=Ca _ (oHx (Bb2 (x+y)));obtain⟨z,hz⟩:=ey ((x+y).tmod 2)
    have am:R=decide (z=0):=by
     rw[<-HR.out];unfold okM;rw[HX.out,HY.out,Lb h8,<-hz];simp only[Bool.true_and,Bool.and_true,Cd1]
    have HF:=Ah am;rw[hz]at XB;clear am;go_wp2_with fail;refine(Rc x _).mono ?_;rintro e w2 ⟨rfl,hb⟩;rw[HX.out];have H2:=H.call hb;obtain⟨⟨b0,b1,b2⟩,_⟩:=He (H2.b 0);clear a0 a1 a2 hb;go_wp2_with fail;refine(Rc y _).mono ?_;rintro e w3 ⟨rfl,hb⟩;rw[HY.out];have H3:=H2.call hb;obtain⟨⟨d0,d1,d2⟩,_⟩:=He (H3.b 0);clear b0 b1 b2 hb;by_cases h0:z=0
    ·have lw:(z != 0)=false:=by simpa using h0
     go_wp2;go_ret;exact⟨Iw (by rw[HF.out,Lb h0];rfl),H3.below⟩
    ·have lw:(z != 0)=true:=by simpa using h0
     go_wp2;go_ret;exact⟨Iw (by rw[HF.out,Ly h0];rfl),H3.below⟩
 ·have am:R=false:=by rw[<-HR.out];unfold okM;rw[Ly h8];simp
  have h8':(8:Int)<=t:=Gu;go_wp2;go_ret;exact⟨Iw (by first|rfl|(rw[am];rfl)),H.below⟩
theorem Yw (w:Aj):Al Do 63 #[] w (Gy mv0.v w):=by
 have H:=(Bx.start w).new #[Aa Ac 0,Aa Ab 0,Aa Ab 0] 30 rfl;go_enter Tryz.func63,Tryz.ntmps63;go_wp2_with fail;refine Ai (v:=mv0.v) (by simp[results,Tryz.results63,go_sem,Mv.v,mv0]) rfl ⟨rfl,?_⟩
 repeat' (first|exact Ag _ _|refine Below.setCell ?_ Gx _|refine Below.alloc ?_ Gx _)
theorem Bv9 (a b c d x y:Int) (w:Aj) (h1:Ab.wrap (a*x)=a*x) (h2:Ab.wrap (b*y)=b*y) (h3:Ab.wrap (a*x+b*y)=a*x+b*y)
  (h4:Ab.wrap (c*x)=c*x) (h5:Ab.wrap (d*y)=d*y) (h6:Ab.wrap (c*x+d*y)=c*x+d*y):
  Al Do 125 #[.agg #[a,b,c,d],x,y] w (Gy (.tuple #[Aa Ab (a*x+b*y),Aa Ab (c*x+d*y)]) w):=by
 go_enter Tryz.func125,Tryz.ntmps125;go_wp2
 go_quiet (fail)
 go_wp2_with fail
 go_ret2
 exact⟨rfl,Ij ((Ag _ _).alloc (Am _) _) _⟩
theorem Tn.cells {w:Aj} (h:Tn w):w.cell? ⟨0,0,Ae⟩=Af (Aa Ab 1)/\w.cell? ⟨0,1,Ae⟩=Af (Aa Ab 0)/\w.cell? ⟨0,2,Ae⟩=Af (Aa Ab 0)/\w.cell? ⟨0,3,Ae⟩=Af (Aa Ab 1)/\w.cell? ⟨0,4,Ae⟩=Af (Aa Ab 0)/\w.cell? ⟨0,5,Ae⟩=Af (Aa Ab (-1))/\w.cell? ⟨0,6,Ae⟩=Af (Aa Ab 1)/\w.cell? ⟨0,7,Ae⟩=Af (Aa Ab 0)/\w.cell? ⟨0,8,Ae⟩=Af (Aa Ab (-1))/\w.cell? ⟨0,9,Ae⟩=Af (Aa Ab 0)/\w.cell? ⟨0,10,Ae⟩=Af (Aa Ab 0)/\w.cell? ⟨0,11,Ae⟩=Af (Aa Ab (-1))/\w.cell? ⟨0,12,Ae⟩=Af (Aa Ab 0)/\w.cell? ⟨0,13,Ae⟩=Af (Aa Ab 1)/\w.cell? ⟨0,14,Ae⟩=Af (Aa Ab (-1))/\w.cell? ⟨0,15,Ae⟩=Af (Aa Ab 0)/\w.cell? ⟨0,16,Ae⟩=Af (Aa Ab (-1))/\w.cell? ⟨0,17,Ae⟩=Af (Aa Ab 0)/\w.cell? ⟨0,18,Ae⟩=Af (Aa Ab 0)/\w.cell? ⟨0,19,Ae⟩=Af (Aa Ab 1)/\w.cell? ⟨0,20,Ae⟩=Af (Aa Ab 0)/\w.cell? ⟨0,21,Ae⟩=Af (Aa Ab (-1))/\w.cell? ⟨0,22,Ae⟩=Af (Aa Ab (-1))/\w.cell? ⟨0,23,Ae⟩=Af (Aa Ab 0)/\w.cell? ⟨0,24,Ae⟩=Af (Aa Ab 1)/\w.cell? ⟨0,25,Ae⟩=Af (Aa Ab 0)/\w.cell? ⟨0,26,Ae⟩=Af (Aa Ab 0)/\w.cell? ⟨0,27,Ae⟩=Af (Aa Ab (-1))/\w.cell? ⟨0,28,Ae⟩=Af (Aa Ab 0)/\w.cell? ⟨0,29,Ae⟩=Af (Aa Ab 1)/\w.cell? ⟨0,30,Ae⟩=Af (Aa Ab 1)/\w.cell? ⟨0,31,Ae⟩=Af (Aa Ab 0):=by
 obtain⟨a0,a1,a2,a3⟩:=h.at' 0 Ha;obtain⟨b0,b1,b2,b3⟩:=h.at' 1 Ha;obtain⟨c0,c1,c2,c3⟩:=h.at' 2 Ha;obtain⟨d0,d1,d2,d3⟩:=h.at' 3 Ha;obtain⟨e0,e1,e2,e3⟩:=h.at' 4 Ha;obtain⟨f0,f1,f2,f3⟩:=h.at' 5 Ha;obtain⟨g0,g1,g2,g3⟩:=h.at' 6 Ha;obtain⟨i0,i1,i2,i3⟩:=h.at' 7 Ha;exact⟨a0,a1,a2,a3,b0,b1,b2,b3,c0,c1,c2,c3,d0,d1,d2,d3,e0,e1,e2,e3,f0,f1,f2,f3,g0,g1,g2,g3,i0,i1,i2,i3⟩
theorem Qd {a x B:Int} (ha: -1<=a/\a<=1) (hx: -B<=x/\x<=B): -B<=a*x/\a*x<=B:=by
 have:a= -1∨a=0∨a=1:=Gu;rcases this with rfl|rfl|rfl<;>omega
theorem uA (t:Nat):(-1<=(mat t).1/\(mat t).1<=1)/\(-1<=(mat t).2.1/\(mat t).2.1<=1)/\(-1<=(mat t).2.2.1/\(mat t).2.2.1<=1)/\(-1<=(mat t).2.2.2/\(mat t).2.2.2<=1):=by
 unfold mat;split<;>decide
theorem lH (t:Nat) (x y:Int) (w:Aj) (hx: -100000<=x/\x<=100000) (hy: -100000<=y/\y<=100000):
  Al Do 125 #[.agg #[Aa Ab (mat t).1,Aa Ab (mat t).2.1,Aa Ab (mat t).2.2.1,Aa Ab (mat t).2.2.2],x,y] w (Gy (.tuple #[Aa Ab (Ic (mat t) x y).1,Aa Ab (Ic (mat t) x y).2]) w):=by
 obtain⟨h1,h2,h3,h4⟩:=uA t;have a1:=Qd h1 hx;have a2:=Qd h2 hy;have a3:=Qd h3 hx;have a4:=Qd h4 hy;exact Bv9 _ _ _ _ x y w (Ca _ Gu) (Ca _ Gu) (Ca _ Gu) (Ca _ Gu) (Ca _ Gu) (Ca _ Gu)
theorem fC (t:Nat) {x y B:Int} (hx: -B<=x/\x<=B) (hy: -B<=y/\y<=B):(-(2*B)<=(Ic (mat t) x y).1/\(Ic (mat t) x y).1<=2*B)/\(-(2*B)<=(Ic (mat t) x y).2/\(Ic (mat t) x y).2<=2*B):=by
 obtain⟨h1,h2,h3,h4⟩:=uA t;have a1:=Qd h1 hx;have a2:=Qd h2 hy;have a3:=Qd h3 hx;have a4:=Qd h4 hy;unfold Ic;dsimp only;omega
theorem Ba9 (s t:Nat) (w:Aj):
  Al Do 128 #[.agg #[Aa Ab (mat s).1,Aa Ab (mat s).2.1,Aa Ab (mat s).2.2.1,Aa Ab (mat s).2.2.2],.agg #[Aa Ab (mat t).1,Aa Ab (mat t).2.1,Aa Ab (mat t).2.2.1,Aa Ab (mat t).2.2.2]] w
   (Gy (Ca3 (Im (mat s) (mat t))) w):=by
 obtain⟨h1,h2,h3,h4⟩:=uA s;obtain⟨⟨a,b,c,d⟩,hs⟩:=ey (mat s);rw[hs]at h1 h2 h3 h4⊢;have O1:=λw=>lH t a c w (by dsimp only at h1;omega) (by dsimp only at h3;omega);have O2:=λw=>lH t b d w (by dsimp only at h2;omega) (by dsimp only at h4;omega);unfold Im;dsimp only at h1 h2 h3 h4⊢;obtain⟨⟨p,r⟩,hp⟩:=ey (Ic (mat t) a c);obtain⟨⟨q,u⟩,hq⟩:=ey (Ic (mat t) b d);obtain⟨⟨e,f,g,i⟩,hm⟩:=ey (mat t);rw[hp,hm]at O1;rw[hq,hm]at O2;rw[hp,hq,hm];dsimp only at O1 O2⊢;have OO1:=Ah O1;have OO2:=Ah O2;have H:=(((Bx.start w).new #[a,b,c,d] 227 rfl).new #[e,f,g,i] 227 (N:=w.heap.size+1) Gx).new #[Aa Ab 0,Aa Ab 0,Aa Ab 0,Aa Ab 0] 227 (N:=w.heap.size+2) Gx;clear O1 O2 hp hq hm hs h1 h2 h3 h4;go_enter Tryz.func128,Tryz.ntmps128;go_upto_region 1 with fail;generalize ((w.alloc _).alloc _).alloc _=W at H⊢;generalize w.heap.size=N at H⊢;obtain⟨⟨a0,a1,a2,a3⟩,_⟩:=Jm (H.b 0);obtain⟨⟨b0,b1,b2,b3⟩,_⟩:=Jm (H.b 1);go_wp2_with fail;refine(OO1.out _).mono ?_;rintro e' w2 ⟨rfl,hb⟩;have H2:=H.call hb;obtain⟨⟨c0,c1,c2,c3⟩,_⟩:=Jm (H2.b 0);obtain⟨⟨d0,d1,d2,d3⟩,_⟩:=Jm (H2.b 1);clear a0 a1 a2 a3 b0 b1 b2 b3 hb H;go_wp2_with fail;refine(OO2.out _).mono ?_;rintro e' w3 ⟨rfl,hb⟩;have H3:=H2.call hb;obtain⟨⟨e0,e1,e2,e3⟩,f0,f1,f2,f3⟩:=Jm (H3.b 2);clear c0 c1 c2 c3 d0 d1 d2 d3 hb H2;go_wp2_with fail;have H4:=(((H3.set 2 0 rfl (Aa Ab p)).set 2 1 rfl (Aa Ab q)).set 2 2 rfl (Aa Ab r)).set 2 3 rfl (Aa Ab u);exact Ai (Mm rfl rfl (H4.range 2 rfl) Tryz.underlying227 rfl Gw) rfl ⟨rfl,H4.below⟩
theorem Bb7 (w:Aj):(Instr.index 228 (.agg #[Aa Ab 1,Aa Ab 0,Aa Ab 0,Aa Ab 1,Aa Ab 0,Aa Ab (-1),Aa Ab 1,Aa Ab 0,Aa Ab (-1),Aa Ab 0,Aa Ab 0,Aa Ab (-1),Aa Ab 0,Aa Ab 1,Aa Ab (-1),Aa Ab 0,Aa Ab (-1),Aa Ab 0,Aa Ab 0,Aa Ab 1,Aa Ab 0,Aa Ab (-1),Aa Ab (-1),Aa Ab 0,Aa Ab 1,Aa Ab 0,Aa Ab 0,Aa Ab (-1),Aa Ab 0,Aa Ab 1,Aa Ab 1,Aa Ab 0]) (Aa Ab 0)).run Do w= .ok (.agg #[Aa Ab 1,Aa Ab 0,Aa Ab 0,Aa Ab 1]) w:=Gw
theorem Bb8 (w:Aj):(Instr.index 228 (.agg #[Aa Ab 1,Aa Ab 0,Aa Ab 0,Aa Ab 1,Aa Ab 0,Aa Ab (-1),Aa Ab 1,Aa Ab 0,Aa Ab (-1),Aa Ab 0,Aa Ab 0,Aa Ab (-1),Aa Ab 0,Aa Ab 1,Aa Ab (-1),Aa Ab 0,Aa Ab (-1),Aa Ab 0,Aa Ab 0,Aa Ab 1,Aa Ab 0,Aa Ab (-1),Aa Ab (-1),Aa Ab 0,Aa Ab 1,Aa Ab 0,Aa Ab 0,Aa Ab (-1),Aa Ab 0,Aa Ab 1,Aa Ab 1,Aa Ab 0]) (Aa Ab 1)).run Do w= .ok (.agg #[Aa Ab 0,Aa Ab (-1),Aa Ab 1,Aa Ab 0]) w:=Gw
theorem Bb9 (w:Aj):(Instr.index 228 (.agg #[Aa Ab 1,Aa Ab 0,Aa Ab 0,Aa Ab 1,Aa Ab 0,Aa Ab (-1),Aa Ab 1,Aa Ab 0,Aa Ab (-1),Aa Ab 0,Aa Ab 0,Aa Ab (-1),Aa Ab 0,Aa Ab 1,Aa Ab (-1),Aa Ab 0,Aa Ab (-1),Aa Ab 0,Aa Ab 0,Aa Ab 1,Aa Ab 0,Aa Ab (-1),Aa Ab (-1),Aa Ab 0,Aa Ab 1,Aa Ab 0,Aa Ab 0,Aa Ab (-1),Aa Ab 0,Aa Ab 1,Aa Ab 1,Aa Ab 0]) (Aa Ab 2)).run Do w= .ok (.agg #[Aa Ab (-1),Aa Ab 0,Aa Ab 0,Aa Ab (-1)]) w:=Gw
theorem Bc0 (w:Aj):(Instr.index 228 (.agg #[Aa Ab 1,Aa Ab 0,Aa Ab 0,Aa Ab 1,Aa Ab 0,Aa Ab (-1),Aa Ab 1,Aa Ab 0,Aa Ab (-1),Aa Ab 0,Aa Ab 0,Aa Ab (-1),Aa Ab 0,Aa Ab 1,Aa Ab (-1),Aa Ab 0,Aa Ab (-1),Aa Ab 0,Aa Ab 0,Aa Ab 1,Aa Ab 0,Aa Ab (-1),Aa Ab (-1),Aa Ab 0,Aa Ab 1,Aa Ab 0,Aa Ab 0,Aa Ab (-1),Aa Ab 0,Aa Ab 1,Aa Ab 1,Aa Ab 0]) (Aa Ab 3)).run Do w= .ok (.agg #[Aa Ab 0,Aa Ab 1,Aa Ab (-1),Aa Ab 0]) w:=Gw
theorem Bc1 (w:Aj):(Instr.index 228 (.agg #[Aa Ab 1,Aa Ab 0,Aa Ab 0,Aa Ab 1,Aa Ab 0,Aa Ab (-1),Aa Ab 1,Aa Ab 0,Aa Ab (-1),Aa Ab 0,Aa Ab 0,Aa Ab (-1),Aa Ab 0,Aa Ab 1,Aa Ab (-1),Aa Ab 0,Aa Ab (-1),Aa Ab 0,Aa Ab 0,Aa Ab 1,Aa Ab 0,Aa Ab (-1),Aa Ab (-1),Aa Ab 0,Aa Ab 1,Aa Ab 0,Aa Ab 0,Aa Ab (-1),Aa Ab 0,Aa Ab 1,Aa Ab 1,Aa Ab 0]) (Aa Ab 4)).run Do w= .ok (.agg #[Aa Ab (-1),Aa Ab 0,Aa Ab 0,Aa Ab 1]) w:=Gw
theorem Bc2 (w:Aj):(Instr.index 228 (.agg #[Aa Ab 1,Aa Ab 0,Aa Ab 0,Aa Ab 1,Aa Ab 0,Aa Ab (-1),Aa Ab 1,Aa Ab 0,Aa Ab (-1),Aa Ab 0,Aa Ab 0,Aa Ab (-1),Aa Ab 0,Aa Ab 1,Aa Ab (-1),Aa Ab 0,Aa Ab (-1),Aa Ab 0,Aa Ab 0,Aa Ab 1,Aa Ab 0,Aa Ab (-1),Aa Ab (-1),Aa Ab 0,Aa Ab 1,Aa Ab 0,Aa Ab 0,Aa Ab (-1),Aa Ab 0,Aa Ab 1,Aa Ab 1,Aa Ab 0]) (Aa Ab 5)).run Do w= .ok (.agg #[Aa Ab 0,Aa Ab (-1),Aa Ab (-1),Aa Ab 0]) w:=Gw
theorem Bc3 (w:Aj):(Instr.index 228 (.agg #[Aa Ab 1,Aa Ab 0,Aa Ab 0,Aa Ab 1,Aa Ab 0,Aa Ab (-1),Aa Ab 1,Aa Ab 0,Aa Ab (-1),Aa Ab 0,Aa Ab 0,Aa Ab (-1),Aa Ab 0,Aa Ab 1,Aa Ab (-1),Aa Ab 0,Aa Ab (-1),Aa Ab 0,Aa Ab 0,Aa Ab 1,Aa Ab 0,Aa Ab (-1),Aa Ab (-1),Aa Ab 0,Aa Ab 1,Aa Ab 0,Aa Ab 0,Aa Ab (-1),Aa Ab 0,Aa Ab 1,Aa Ab 1,Aa Ab 0]) (Aa Ab 6)).run Do w= .ok (.agg #[Aa Ab 1,Aa Ab 0,Aa Ab 0,Aa Ab (-1)]) w:=Gw
theorem Bc4 (w:Aj):(Instr.index 228 (.agg #[Aa Ab 1,Aa Ab 0,Aa Ab 0,Aa Ab 1,Aa Ab 0,Aa Ab (-1),Aa Ab 1,Aa Ab 0,Aa Ab (-1),Aa Ab 0,Aa Ab 0,Aa Ab (-1),Aa Ab 0,Aa Ab 1,Aa Ab (-1),Aa Ab 0,Aa Ab (-1),Aa Ab 0,Aa Ab 0,Aa Ab 1,Aa Ab 0,Aa Ab (-1),Aa Ab (-1),Aa Ab 0,Aa Ab 1,Aa Ab 0,Aa Ab 0,Aa Ab (-1),Aa Ab 0,Aa Ab 1,Aa Ab 1,Aa Ab 0]) (Aa Ab 7)).run Do w= .ok (.agg #[Aa Ab 0,Aa Ab 1,Aa Ab 1,Aa Ab 0]) w:=Gw
def gE:List Ak:=[Aa Ab 1,Aa Ab 0,Aa Ab 0,Aa Ab 1,Aa Ab 0,Aa Ab (-1),Aa Ab 1,Aa Ab 0,Aa Ab (-1),Aa Ab 0,Aa Ab 0,Aa Ab (-1),Aa Ab 0,Aa Ab 1,Aa Ab (-1),Aa Ab 0,Aa Ab (-1),Aa Ab 0,Aa Ab 0,Aa Ab 1,Aa Ab 0,Aa Ab (-1),Aa Ab (-1),Aa Ab 0,Aa Ab 1,Aa Ab 0,Aa Ab 0,Aa Ab (-1),Aa Ab 0,Aa Ab 1,Aa Ab 1,Aa Ab 0]
def wN:Ak:= .agg gE.toArray
theorem Tn.range {w:Aj} (h:Tn w):w.rangeAt 0 0 gE:=by
 intro j v hj;obtain⟨h00,U_,h02,h03,BC,V_,h12,h13,h20,h21,h22,h23,h30,h31,h32,h33,h40,JB,h42,h43,h50,h51,h52,h53,h60,h61,JC,h63,h70,h71,h72,h73⟩:=h.cells;have hl:j<32:=(Ax.1 hj).1;rw[Bt];have:j=0∨j=1∨j=2∨j=3∨j=4∨j=5∨j=6∨j=7∨j=8∨j=9∨j=10∨j=11∨j=12∨j=13∨j=14∨j=15∨j=16∨j=17∨j=18∨j=19∨j=20∨j=21∨j=22∨j=23∨j=24∨j=25∨j=26∨j=27∨j=28∨j=29∨j=30∨j=31:=Gu;rcases this with rfl|rfl|rfl|rfl|rfl|rfl|rfl|rfl|rfl|rfl|rfl|rfl|rfl|rfl|rfl|rfl|rfl|rfl|rfl|rfl|rfl|rfl|rfl|rfl|rfl|rfl|rfl|rfl|rfl|rfl|rfl|rfl
 all_goals (simp only[gE,Cw,List.getElem?_cons_zero,Option.some.injEq]at hj;subst hj;assumption)
theorem Bn9 (k:Nat) (hk:k<8) (w:Aj):(Instr.index 228 wN (Aa Ab k)).run Do w= .ok (.agg #[Aa Ab (mat k).1,Aa Ab (mat k).2.1,Aa Ab (mat k).2.2.1,Aa Ab (mat k).2.2.2]) w:=by
 have:k=0∨k=1∨k=2∨k=3∨k=4∨k=5∨k=6∨k=7:=Gu;rcases this with rfl|rfl|rfl|rfl|rfl|rfl|rfl|rfl
 ·exact Bb7 w
 ·exact Bb8 w
 ·exact Bb9 w
 ·exact Bc0 w
 ·exact Bc1 w
 ·exact Bc2 w
 ·exact Bc3 w
 ·exact Bc4 w
theorem Bj9 {k r:Nat} (hk:k<8) (hr:r<8) (h:(mat k).1=(mat r).1/\(mat k).2.1=(mat r).2.1/\(mat k).2.2.1=(mat r).2.2.1/\(mat k).2.2.2=(mat r).2.2.2):k=r:=by
 have:∀k<8,∀r<8,((mat k).1=(mat r).1/\(mat k).2.1=(mat r).2.1/\(mat k).2.2.1=(mat r).2.2.1/\(mat k).2.2.2=(mat r).2.2.2)->k=r:=Ha;exact this k hk r hr h
theorem uN (r:Nat) (hr:r<8) (w:Aj) (hT:Tn w):Al Do 127 #[.agg #[Aa Ab (mat r).1,Aa Ab (mat r).2.1,Aa Ab (mat r).2.2.1,Aa Ab (mat r).2.2.2]] w (Gy (Aa Ac r) w):=by
 obtain⟨⟨a,b,c,d⟩,hm⟩:=ey (mat r);have HI:=Ah λk hk=>Bj9 (k:=k) hk hr;rw[hm]at HI⊢;dsimp only at HI⊢;have H:=(Bx.start w).new #[a,b,c,d] 227 rfl;have HT:=Ah (hT.below H.below);have HM:=Ah hm;clear hm;go_enter Tryz.func127,Tryz.ntmps127;go_upto_region 1 with fail;generalize w.alloc _=W at H HT⊢;generalize w.heap.size=N at H⊢;refine wp_region_list ?_;refine wpList_load_mid rfl 228 (.global 0) rfl 0 0 rfl gE _ HT.out.range Tryz.underlying228 rfl Gw ?_;rw[show Value.agg gE.toArray=wN from rfl];obtain⟨TV,hTV⟩:=ey wN;have HX:=λk hk w=>Bn9 k hk w;rw[hTV]at HX;rw[hTV];have NZ:=Ah HX;clear hTV HX;go_upto_region 2 with fail
 go_loopw [6] (λi wr=>∃k:Nat,k<=r/\i= Aa Ab k/\Bx w [(N,#[a,b,c,d],227)] wr) (λi _=>r-(intOf i).toNat)
 case atStart=>exact⟨0,Gu,rfl,H⟩
 obtain⟨k,hk,rfl,Hr⟩:=hrel;obtain⟨⟨a0,a1,a2,a3⟩,_⟩:=Jm (Hr.b 0);have ad:=Hr.lt 0 rfl;have zm:=NZ.out k Gu;have hi:=HI.out k Gu;have q1:(k:Int)<8:=Gu;obtain⟨⟨a',b',c',d'⟩,D9⟩:=ey (mat k);rw[D9]at hi zm;dsimp only at hi zm;have NR:=Ah hi;have GA:=Ah D9;clear hi D9;by_cases D0:k=r
 ·subst D0
  obtain⟨rfl,rfl,rfl,rfl⟩:a'=a/\b'=b/\c'=c/\d'=d:=by
   have h1:=HM.out;rw[GA.out]at h1;simpa using h1
  have w1:IntKind.u8.wrap (k:Int)=k:=IntWalk.u8_in _ Gu;go_wp2;go_ret;exact⟨rfl,(Hr.call ((Ag _ _).alloc (Am _) _)).below⟩
 ·have hne:¬(a'=a/\b'=b/\c'=c/\d'=d):=λh=>D0 (NR.out h);have hy:=λo=>Hr.call ((Ag _ _).alloc (Am _) o);go_wp2_with fail
  all_goals first
   |exact⟨⟨k+1,Gu,by go_num,hy _⟩,by simp[intOf];omega⟩
   |exact absurd ⟨rfl,rfl,rfl,rfl⟩ hne
def nxt:Nat->Nat->Int×Int×Int
 |0,0=>(0,-1,2)|0,1=>(0,0,1)|0,_=>(0,0,3)
 |1,0=>(1,0,3)|1,1=>(0,0,0)|1,_=>(0,0,2)
 |2,0=>(0,1,0)|2,1=>(0,0,3)|2,_=>(0,0,1)
 |_,0=>(-1,0,1)|_,1=>(0,0,2)|_,_=>(0,0,0)
theorem fI (q e:Nat): -1<=(nxt q e).1/\(nxt q e).1<=1/\-1<=(nxt q e).2.1/\(nxt q e).2.1<=1/\0<=(nxt q e).2.2/\(nxt q e).2.2<=3:=by
 unfold nxt
 split<;>decide
structure Qt (w:Aj):Prop where
 lt:1<w.heap.size
 at':∀q e,q<4->e<3->w.cell? ⟨1,q*17+4+e*3,Ae⟩=Af (Aa Ab (nxt q e).1)/\w.cell? ⟨1,q*17+4+e*3+1,Ae⟩=Af (Aa Ab (nxt q e).2.1)/\w.cell? ⟨1,q*17+4+e*3+2,Ae⟩=Af (Aa Ac (nxt q e).2.2)
theorem Qt.below {w w':Aj} (h:Qt w) (hb:Below w.heap.size w w'):Qt w':=
 ⟨Bq h.lt hb.size,λq e hq he=>by
  obtain⟨h1,h2,h3⟩:=h.at' q e hq he;exact⟨Gv hb h1,Gv hb h2,Gv hb h3⟩⟩
def nbr (x y q e:Int):Int×Int×Int×Int:=
 if okC x y q=false∨2<e then (0,0,0,1)
 else if okC (x+(nxt q.toNat e.toNat).1) (y+(nxt q.toNat e.toNat).2.1) (nxt q.toNat e.toNat).2.2 then (x+(nxt q.toNat e.toNat).1,y+(nxt q.toNat e.toNat).2.1,(nxt q.toNat e.toNat).2.2,0)
 else (0,0,0,3)
def Nj (c:Int×Int×Int×Int):Ak:= .tuple #[.agg #[Aa Ab c.1,Aa Ab c.2.1,Aa Ac c.2.2.1],Aa Ab c.2.2.2]
theorem Sh (x y q e:Int) (w:Aj) (hq:0<=q) (he:0<=e) (hQ:Qt w):
  Al Do 137 #[.agg #[x,y,Aa Ac q],Aa Ac e] w (Gy (Nj (nbr x y q e)) w):=by
 cases hc:okC x y q
 ·have hn:nbr x y q e=(0,0,0,1):=by unfold nbr;rw[Hd (.inl hc)]
  rw[hn];have HC:=Ah hc;clear hc hn;go_enter Tryz.func137,Tryz.ntmps137;go_wp2_with fail;refine(Jf x y q _).mono ?_;rintro e' w2 ⟨rfl,aj⟩;rw[HC.out,Qq];obtain⟨n1,n2⟩:=gN w (.cells #[x,y,Aa Ac q] 90) (.cells #[Aa Ab 0,Aa Ab 0,Aa Ac 0] 90);obtain⟨⟨r0,r1,r2⟩,z0,z1,z2⟩:=He (kept aj n2 Gx);have de:Below w.heap.size w w2:=(((Ag _ _).alloc (Am _) _).alloc Gx _).trans (aj.mono Hu);clear n1 n2;go_wp2_with fail;refine Ai (v:=Nj (0,0,0,1)) (by simp[results,Tryz.results137,go_sem,r0,r1,r2,Nj]) rfl ⟨rfl,?_⟩;exact((de.setCell Gx _).setCell Gx _).setCell Gx _
 ·by_cases vu:2<e
  ·have hn:nbr x y q e=(0,0,0,1):=by unfold nbr;rw[Hd (.inr vu)]
   rw[hn];have HC:=Ah hc;clear hc hn;go_enter Tryz.func137,Tryz.ntmps137;go_wp2_with fail;refine(Jf x y q _).mono ?_;rintro e' w2 ⟨rfl,aj⟩;rw[HC.out,Ls];obtain⟨n1,n2⟩:=gN w (.cells #[x,y,Aa Ac q] 90) (.cells #[Aa Ab 0,Aa Ab 0,Aa Ac 0] 90);obtain⟨⟨r0,r1,r2⟩,z0,z1,z2⟩:=He (kept aj n2 Gx);have de:Below w.heap.size w w2:=(((Ag _ _).alloc (Am _) _).alloc Gx _).trans (aj.mono Hu);clear n1 n2;go_wp2_with fail;refine Ai (v:=Nj (0,0,0,1)) (by simp[results,Tryz.results137,go_sem,r0,r1,r2,Nj]) rfl ⟨rfl,?_⟩;exact((de.setCell Gx _).setCell Gx _).setCell Gx _
  ·obtain⟨qn,rfl⟩:=Int.eq_ofNat_of_zero_le hq;obtain⟨en,rfl⟩:=Int.eq_ofNat_of_zero_le he;have fy:=Jt.1 hc;have hqn:qn<4:=Gu;have qj:en<3:=Gu;have fd:=fI qn en;obtain⟨nx,fg⟩:=ey ((nxt qn en).1);obtain⟨ny,hny⟩:=ey ((nxt qn en).2.1);obtain⟨nq,hnq⟩:=ey ((nxt qn en).2.2)
   have hn:nbr x y qn en=if okC (x+nx) (y+ny) nq then (x+nx,y+ny,nq,0)else (0,0,0,3):=by
    unfold nbr;rw[Gz (by rw[hc];simp;omega),Eu,Eu,fg,hny,hnq]
   obtain⟨R,hR⟩:=ey (nbr x y qn en);rw[hR];have HR:=Ah (hR.symm.trans hn);rw[fg,hny,hnq]at fd;have HC:=Ah hc;have oh:=Ah fg;have HNY:=Ah hny;have HNQ:=Ah hnq;have q1:(qn:Int)<4:=Gu;have q2:(en:Int)<3:=Gu;have q3:¬(2:Int)<(en:Int):=Gu;clear hc hn hR fg hny hnq vu;go_enter Tryz.func137,Tryz.ntmps137;go_wp2_with fail;refine(Jf x y qn _).mono ?_;rintro e' w2 ⟨rfl,aj⟩;rw[HC.out,Ls];obtain⟨n1,n2⟩:=gN w (.cells #[x,y,Aa Ac qn] 90) (.cells #[Aa Ab 0,Aa Ab 0,Aa Ac 0] 90);obtain⟨⟨r0,r1,r2⟩,z0,z1,z2⟩:=He (kept aj n2 Gx);obtain⟨⟨s0,s1,s2⟩,_⟩:=He (kept aj n1 Hu);have de:Below w.heap.size w w2:=(((Ag _ _).alloc (Am _) _).alloc Gx _).trans (aj.mono Hu);obtain⟨t0,t1,t2⟩:=(hQ.below de).at' qn en hqn qj;rw[oh.out]at t0;rw[HNY.out]at t1;rw[HNQ.out]at t2;have ir:=aj.size;simp only[World.size_alloc]at ir;have GW:1<w2.heap.size:=(hQ.below de).lt;have hwx: -4097<=nx+x/\nx+x<=4097:=Gu;have hwy: -4097<=ny+y/\ny+y<=4097:=Gu;obtain⟨cx,qv⟩:=ez (x+nx);obtain⟨cy,BK⟩:=ez (y+ny);have w1:Ab.wrap (nx+x)=cx:=by rw[Ca _ Gu];omega
   have XB:Ab.wrap (ny+y)=cy:=by rw[Ca _ Gu];omega
   have sk:=Ah qv;have HCY:=Ah BK;have GY:w.heap.size<w2.heap.size:=Gu;have gp:w.heap.size+1<w2.heap.size:=Gu;have TW:=Ah (kept aj n2 Gx);clear n1 n2 qv BK;go_wp2
   go_region
   go_wp2_with fail;refine(Jf cx cy nq _).mono ?_;rintro e' w3 ⟨rfl,jt⟩;have bm:=Hk jt;have m2:w3.heap[w.heap.size+1]? =Af (.cells #[Aa Ab 0,Aa Ab 0,Aa Ac 0] 90 (0,0)):=kept bm ((Eg _ _ _ gp).trans TW.out) Hu;have m3:w3.heap[w2.heap.size]? =Af (.cells #[cx,cy,Aa Ac nq] 90 (0,0)):=kept bm (Bz w2 _) Gx;have hbw3:Below w.heap.size w w3:=(de.alloc de.size _).trans (bm.mono Hu);have LZ:w.heap.size+1<w3.heap.size:=(Au.1 m2).1;obtain⟨⟨a0,a1,a2⟩,y0,y1,y2⟩:=He m2;obtain⟨⟨b0,b1,b2⟩,_⟩:=He m3;clear r0 r1 r2 z0 z1 z2 s0 s1 s2 t0 t1 t2 m2 m3 aj bm jt
   cases hk:okC cx cy nq
   ·have HK:=Ah hk;rw[Qq];clear hk;go_wp2_with fail;refine Ai (v:=Nj (0,0,0,3)) (by simp[results,Tryz.results137,go_sem,a0,a1,a2,Nj]) rfl ⟨?_,?_⟩
    ·rw[HR.out,<-sk.out,<-HCY.out,HK.out];rfl
    ·exact((hbw3.setCell Gx _).setCell Gx _).setCell Gx _
   ·have HK:=Ah hk;rw[Ls];clear hk;go_wp2_with fail;refine Ai (v:=Nj (cx,cy,nq,0)) (by simp[results,Tryz.results137,go_sem,a0,a1,a2,Nj]) rfl ⟨?_,?_⟩
    ·rw[HR.out,<-sk.out,<-HCY.out,HK.out];rfl
    ·exact((hbw3.setCell Gx _).setCell Gx _).setCell Gx _
def Sz (a b i:Int):Bool:=decide (0<=i)&&decide (i<4*a*b)
theorem Ot {a b i:Int}:Sz a b i=true↔0<=i/\i<4*a*b:=by unfold Sz;simp
theorem Mg {a b:Int} (h:okS a b=true):1<=a*b/\a*b<=256/\1<=a/\a<=256/\1<=b/\b<=256:=by
 obtain⟨h1,h2,h3,h4,h5⟩:=dE.1 h;refine⟨?_,h5,h1,h3,h2,h4⟩;have:=Int.mul_le_mul h1 h2 Gu Gu;omega
theorem Bh1 (a b i:Int) (w:Aj) (hs:okS a b=true):
  Al Do 177 #[.agg #[a,b],i] w (Gy (.bool (Sz a b i)) w):=by
 obtain⟨m1,m2,m3,m4,m5,m6⟩:=Mg hs;obtain⟨m,hm⟩:=ey (4*a*b)
 have VT:4<=m/\m<=1024:=by
  have:4*a*b=4*(a*b):=Cv _ _ _;omega
 have HM:=Ah hm;obtain⟨R,hR⟩:=ey (Sz a b i);rw[hR];have HR:=Ah hR;obtain⟨ci,aj⟩:=VT;clear hs hR;go_enter Tryz.func177,Tryz.ntmps177;go_wp2_with fail
 all_goals go_ret
 all_goals refine⟨?_,(Ag _ _).alloc (Am _) _⟩
 ·rw[<-HR.out];exact Rq (by unfold Sz;rw[Lb (show 0<=i by omega),HM.out,Bool.true_and])
 ·rw[<-HR.out];exact Rq (by unfold Sz;rw[Ly (show¬0<=i by omega),Bool.false_and])
theorem mU (a b i:Int) (w:Aj) (hs:okS a b=true) (hi:Sz a b i=true):
  Al Do 178 #[.agg #[a,b],i] w (Gy (.agg #[Aa Ab (i/4%a),Aa Ab (i/4/a),Aa Ac (i%4)]) w):=by
 obtain⟨m1,m2,m3,m4,m5,m6⟩:=Mg hs;obtain⟨i1,i2⟩:=Ot.1 hi;have i3:i<=1024:=by have:4*a*b=4*(a*b):=Cv _ _ _;omega
 have d1:0<=i/4:=Gu;have d2:i/4<=256:=Gu;have d3:=Int.emod_nonneg (i/4) (show a≠0 by omega);have d4:=Int.emod_lt_of_pos (i/4) (show 0<a by omega);have d5:0<=i/4/a:=Int.ediv_nonneg d1 Gu;have d6:i/4/a<=256:=Int.le_trans (Int.ediv_le_self _ d1) d2;have e1:(a==0)=false:=Hu;have e2:(i/4).tmod a=i/4%a:=Int.tmod_eq_emod_of_nonneg d1;have e3:(i/4).tdiv a=i/4/a:=Gh d1;have e4:i.tdiv 4=i/4:=Gh i1;have e5:i.tmod 4=i%4:=Int.tmod_eq_emod_of_nonneg i1;have e6:Ab.wrap (i/4)=i/4:=Ca _ Gu;have e7:Ab.wrap (i/4%a)=i/4%a:=Ca _ Gu;have e8:Ab.wrap (i/4/a)=i/4/a:=Ca _ Gu;have e9:Ab.wrap (i%4)=i%4:=Ca _ Gu;have UN:IntKind.u8.wrap (i%4)=i%4:=IntWalk.u8_in _ Gu;clear hs hi i2 d1 d2 d3 d4 d5 d6;obtain⟨n1,n2⟩:=gN w (.cells #[a,b] 25) (.cells #[Aa Ab 0,Aa Ab 0,Aa Ac 0] 90);go_enter Tryz.func178,Tryz.ntmps178;go_wp2
 go_region
 go_wp2_with fail;refine Ai (v:= .agg #[Aa Ab (i/4%a),Aa Ab (i/4/a),Aa Ac (i%4)]) (by simp[results,Tryz.results178,go_sem]) rfl ⟨rfl,?_⟩
 repeat' (first|exact Ag _ _|refine Below.drew ?_|refine Below.setCell ?_ Gx _|refine Below.alloc ?_ Gx _)
def Uq (a b i:Int):Int×Int×Int×Int:=if Sz a b i then (i/4%a,i/4/a,i%4,0)else (0,0,0,7)
theorem Sj (a b i:Int) (w:Aj) (hs:okS a b=true):
  Al Do 136 #[.agg #[a,b],i] w (Gy (Nj (Uq a b i)) w):=by
 obtain⟨R,hR⟩:=ey (Uq a b i);rw[hR];have HR:=Ah hR;have HS:=Ah hs;obtain⟨n1,n2⟩:=gN w (.cells #[a,b] 25) (.cells #[Aa Ab 0,Aa Ab 0,Aa Ac 0] 90);have ci:Below w.heap.size w ((w.alloc (.cells #[a,b] 25)).alloc (.cells #[Aa Ab 0,Aa Ab 0,Aa Ac 0] 90)):=((Ag _ _).alloc (Am _) _).alloc Gx _;have ap:w.heap.size+1<((w.alloc (.cells #[a,b] 25)).alloc (.cells #[Aa Ab 0,Aa Ab 0,Aa Ac 0] 90)).heap.size:=Gx;clear hR hs;go_enter Tryz.func136,Tryz.ntmps136;go_upto_region 1 with fail;generalize (w.alloc _).alloc _=W at n1 n2 ci ap⊢;obtain⟨N,hN⟩:=ez w.heap.size;rw[<-hN]at n1 n2 ap⊢;have db:=Ah hN;have N1:=Ah n1;have N2:=Ah n2;obtain⟨⟨x0,x1⟩,_⟩:=Hn n1;clear n1 n2 hN;go_wp2_with fail;refine(Ju a b _).mono ?_;rintro e w2 ⟨rfl,aj⟩;rw[HS.out,Ls];have dt:Below w.heap.size w w2:=ci.trans (aj.mono ci.size);have M1:=Ah (kept aj N1.out Gu);have M2:=Ah (kept aj N2.out ap);obtain⟨⟨y0,y1⟩,_⟩:=Hn M1.out;have ca:N+1<w2.heap.size:=Bq ap aj.size;clear x0 x1 aj N1 N2;go_wp2_with fail;refine(Bh1 a b i _ HS.out).mono ?_;rintro e w3 ⟨rfl,bm⟩;have jt:Below w.heap.size w w3:=dt.trans (bm.mono dt.size);have P1:=Ah (kept bm M1.out Gu);have P2:=Ah (kept bm M2.out ca);obtain⟨⟨v0,v1⟩,_⟩:=Hn P1.out;obtain⟨⟨r0,r1,r2⟩,z0,z1,z2⟩:=He P2.out;have od:N+1<w3.heap.size:=Bq ca bm.size;clear y0 y1 bm M1 M2
 cases hi:Sz a b i
 ·have HI:=Ah hi;clear hi;go_wp2_with fail;refine Ai (v:=Nj (0,0,0,7)) (by simp[results,Tryz.results136,go_sem,r0,r1,r2,Nj]) rfl ⟨?_,?_⟩
  ·rw[<-HR.out];unfold Uq;rw[HI.out];rfl
  ·have h9:=db.out;exact((jt.setCell Hu _).setCell Hu _).setCell Hu _
 ·have HI:=Ah hi;clear hi;go_wp2_with fail;refine(mU a b i _ HS.out HI.out).mono ?_;rintro e w4 ⟨rfl,ct⟩;have DE:Below w.heap.size w w4:=jt.trans (ct.mono jt.size);obtain⟨⟨s0,s1,s2⟩,y0,y1,y2⟩:=He (kept ct P2.out od);have WP:N+1<w4.heap.size:=Bq od ct.size;clear v0 v1 r0 r1 r2 z0 z1 z2 ct;go_wp2_with fail;refine Ai (v:=Nj (i/4%a,i/4/a,i%4,0)) (by simp[results,Tryz.results136,go_sem,s0,s1,s2,Nj]) rfl ⟨?_,?_⟩
  ·rw[<-HR.out];unfold Uq;rw[HI.out];rfl
  ·have h9:=db.out;exact((DE.setCell Hu _).setCell Hu _).setCell Hu _
def inS (a b x y q:Int):Bool:=okC x y q&&decide (0<=x)&&decide (x<a)&&decide (0<=y)&&decide (y<b)
theorem Za {a b x y q:Int}:inS a b x y q=true↔okC x y q=true/\0<=x/\x<a/\0<=y/\y<b:=by
 unfold inS;simp only[El,Lg,and_assoc]
theorem Ar7 {a b x y q:Int} (h:¬(okC x y q=true/\0<=x/\x<a/\0<=y/\y<b)):inS a b x y q=false:=by
 rw[<-Eo,Za];exact h
def idI (a b x y q:Int):Int×Int:=if inS a b x y q then (4*(y*a+x)+q,0)else (0,7)
def eQ (r:Int×Int):Ak:= .tuple #[Aa Ab r.1,Aa Ab r.2]
theorem Bp2 {a b x y:Int} (hs:okS a b=true) (hx:0<=x/\x<a) (hy:0<=y/\y<b):0<=y*a/\y*a+x<a*b/\a*b<=256:=by
 obtain⟨m1,m2,m3,m4,m5,m6⟩:=Mg hs;refine⟨Int.mul_nonneg hy.1 Gu,?_,m2⟩;have h1:(y+1)*a<=b*a:=Int.mul_le_mul_of_nonneg_right Gu Gu;rw[Int.add_mul,Int.one_mul,Int.mul_comm b a]at h1;omega
theorem Bt6 (a b x y q:Int) (w:Aj) (hs:okS a b=true) (hq:0<=q/\q<=255):
  Al Do 138 #[.agg #[a,b],.agg #[x,y,Aa Ac q]] w (Gy (eQ (idI a b x y q)) w):=by
 obtain⟨R,hR⟩:=ey (idI a b x y q);rw[hR];have HR:=Ah hR;have HS:=Ah hs;have dm:=λhx hy=>Bp2 (a:=a) (b:=b) (x:=x) (y:=y) hs hx hy;have dx:=Ah dm;obtain⟨n1,n2⟩:=gN w (.cells #[a,b] 25) (.cells #[x,y,Aa Ac q] 90);have ci:Below w.heap.size w ((w.alloc (.cells #[a,b] 25)).alloc (.cells #[x,y,Aa Ac q] 90)):=((Ag _ _).alloc (Am _) _).alloc Gx _;have ap:w.heap.size+1<((w.alloc (.cells #[a,b] 25)).alloc (.cells #[x,y,Aa Ac q] 90)).heap.size:=Gx;clear hR hs dm;go_enter Tryz.func138,Tryz.ntmps138;go_upto_region 1 with fail;generalize (w.alloc _).alloc _=W at n1 n2 ci ap⊢;generalize w.heap.size=N at n1 n2 ap⊢;have N1:=Ah n1;have N2:=Ah n2;obtain⟨⟨x0,x1⟩,_⟩:=Hn n1;clear n1 n2;go_wp2_with fail;refine(Ju a b _).mono ?_;rintro e w2 ⟨rfl,aj⟩;rw[HS.out,Ls];have dt:Below w.heap.size w w2:=ci.trans (aj.mono ci.size);have M1:=Ah (kept aj N1.out Gu);have M2:=Ah (kept aj N2.out ap);obtain⟨⟨y0,y1,y2⟩,_⟩:=He M2.out;have ca:N+1<w2.heap.size:=Bq ap aj.size;clear x0 x1 aj N1 N2;go_wp2_with fail;refine(Jf x y q _).mono ?_;rintro e w3 ⟨rfl,bm⟩;have jt:Below w.heap.size w w3:=dt.trans (bm.mono dt.size);obtain⟨⟨v0,v1⟩,_⟩:=Hn (kept bm M1.out Gu);obtain⟨⟨r0,r1,r2⟩,_⟩:=He (kept bm M2.out ca);clear y0 y1 y2 bm M1 M2
 cases hc:okC x y q
 ·have HC:=Ah hc;rw[Qq];clear hc;go_wp2_with fail
  go_ret2
  refine⟨?_,jt⟩;rw[<-HR.out];unfold idI;rw[Ar7 (λh=>by rw[HC.out]at h;cases h.1)];rfl
 ·have HC:=Ah hc;rw[Ls];clear hc;by_cases jm:(0<=x/\x<a)/\(0<=y/\y<b)
  ·obtain⟨⟨h1,h2⟩,h3,h4⟩:=jm;obtain⟨k1,k2,k3⟩:=dx.out ⟨h1,h2⟩ ⟨h3,h4⟩;have k4:Ab.wrap q=q:=Ca _ Gu;have hma:=dE.1 HS.out;obtain⟨p,hp⟩:=ey (y*a);rw[hp]at k1 k2;have HP:=Ah hp;clear hma;go_wp2_with fail
   go_ret2
   refine⟨?_,jt⟩;rw[<-HR.out];unfold idI;rw[Za.2 ⟨HC.out,h1,h2,h3,h4⟩,<-HP.out];rfl
  ·have oz:=Ar7 (a:=a) (b:=b) (x:=x) (y:=y) (q:=q) (λh=>jm ⟨⟨h.2.1,h.2.2.1⟩,h.2.2.2.1,h.2.2.2.2⟩);have EU:R=(0,7):=by rw[<-HR.out];unfold idI;rw[oz];rfl
   have QA:=Ah EU;have yu:=Ah jm;clear oz EU jm;go_wp2_with fail
   all_goals go_ret2
   all_goals first|exact⟨by rw[QA.out];rfl,jt⟩|exact absurd Gu yu.out
def nbI (a b i e:Int):Int×Int:=
 if Sz a b i=false then (0,7)
 else if(nbr (i/4%a) (i/4/a) (i%4) e).2.2.2=0 then idI a b (nbr (i/4%a) (i/4/a) (i%4) e).1 (nbr (i/4%a) (i/4/a) (i%4) e).2.1 (nbr (i/4%a) (i/4/a) (i%4) e).2.2.1
 else (0,1)
theorem uJ (x y q e:Int):0<=(nbr x y q e).2.2.1/\(nbr x y q e).2.2.1<=3:=by
 have h:=fI q.toNat e.toNat;unfold nbr
 split
 ·exact⟨Ha,Ha⟩
 ·split
  ·exact⟨h.2.2.2.2.1,h.2.2.2.2.2⟩
  ·exact⟨Ha,Ha⟩
theorem Ji (a b i e:Int) (w:Aj) (hs:okS a b=true) (he:0<=e) (hQ:Qt w):
  Al Do 77 #[.agg #[a,b],i,Aa Ac e] w (Gy (eQ (nbI a b i e)) w):=by
 obtain⟨R,hR⟩:=ey (nbI a b i e);rw[hR];have HR:=Ah hR;have HS:=Ah hs;have ff:(w.alloc (.cells #[a,b] 25)).heap[w.heap.size]? =Af (.cells #[a,b] 25 (0,0)):=Bz w _;have ci:Below w.heap.size w (w.alloc (.cells #[a,b] 25)):=(Ag _ _).alloc (Am _) _;have ap:w.heap.size<(w.alloc (.cells #[a,b] 25)).heap.size:=Gx;clear hR hs;go_enter Tryz.func77,Tryz.ntmps77;go_upto_region 1 with fail;generalize w.alloc _=W at ff ci ap⊢;generalize w.heap.size=N at ff ap⊢;have N1:=Ah ff;obtain⟨⟨x0,x1⟩,_⟩:=Hn ff;clear ff;go_wp2_with fail;refine(Sj a b i _ HS.out).mono ?_;rintro e' w2 ⟨rfl,aj⟩;have dt:Below w.heap.size w w2:=ci.trans (aj.mono ci.size);have M1:=Ah (kept aj N1.out ap);have ca:N<w2.heap.size:=Bq ap aj.size;have je:=dt.size;clear x0 x1 aj N1
 cases hi:Sz a b i
 ·have hc:Uq a b i=(0,0,0,7):=by unfold Uq;rw[hi];rfl
  have hr:R=(0,7):=by rw[<-HR.out];unfold nbI;rw[Hd hi]
  rw[hc];unfold Nj;have jq:=Ah hr;clear hc hr hi;dsimp only;go_wp2_with fail
  go_ret2
  exact⟨by rw[jq.out];rfl,(dt.alloc je _)⟩
 ·have hc:Uq a b i=(i/4%a,i/4/a,i%4,0):=by unfold Uq;rw[hi];rfl
  have U2:0<=i%4/\i%4<=3:=Gu
  have hr:R=if(nbr (i/4%a) (i/4/a) (i%4) e).2.2.2=0 then idI a b (nbr (i/4%a) (i/4/a) (i%4) e).1 (nbr (i/4%a) (i/4/a) (i%4) e).2.1 (nbr (i/4%a) (i/4/a) (i%4) e).2.2.1 else (0,1):=by
   rw[<-HR.out];unfold nbI;rw[Gz (by rw[hi];simp)]
  rw[hc];unfold Nj;obtain⟨cx,qv⟩:=ez (i/4%a);obtain⟨cy,BK⟩:=ez (i/4/a);obtain⟨cq,hcq⟩:=ez (i%4);rw[<-qv,<-BK,<-hcq]at hr⊢;rw[<-hcq]at U2;have cg:=uJ cx cy cq e;obtain⟨⟨nx,ny,nq,ne⟩,hn⟩:=ey (nbr cx cy cq e);rw[hn]at hr cg;have jq:=Ah hr;have GD:=Ah hn;dsimp only at cg;clear hc hr hi hn qv BK hcq;dsimp only;go_wp2_with fail;have sc:=Ah (hQ.below (dt.alloc je (.cells #[cx,cy,Aa Ac cq] 90)));refine(Sh cx cy cq e _ U2.1 he sc.out).mono ?_;rintro e' w3 ⟨rfl,bm⟩;rw[GD.out];unfold Nj;dsimp only;have jt:Below w.heap.size w w3:=(dt.alloc je _).trans (bm.mono Hu);have P1:=Ah (kept bm ((Eg _ _ _ ca).trans M1.out) Hu);have hs3:=jt.size;have od:N<w3.heap.size:=by have:=bm.size;simp at this;omega
  obtain⟨⟨v0,v1⟩,_⟩:=Hn P1.out;clear bm M1;by_cases hne:ne=0
  ·subst hne;go_wp2_with fail;refine(Bt6 a b nx ny nq _ HS.out Gu).mono ?_;rintro e' w4 ⟨rfl,ct⟩;have DE:Below w.heap.size w w4:=(jt.alloc hs3 _).trans (ct.mono Hu);obtain⟨⟨id,ie⟩,hid⟩:=ey (idI a b nx ny nq);have am:R=(id,ie):=by rw[jq.out];exact hid
   rw[hid];unfold eQ;dsimp only;have HF:=Ah am;clear am hid v0 v1;go_wp2_with fail
   go_ret2
   exact⟨by rw[HF.out];rfl,DE⟩
  ·have am:R=(0,1):=by rw[jq.out];exact Gz hne
   have hb:(ne != 0)=true:=by simpa using hne
   have HF:=Ah am;clear am hne v0 v1;go_wp2_with fail
   go_ret2
   exact⟨by rw[HF.out];rfl,jt.alloc hs3 _⟩
def Ig (a b i e:Int):Int×Int×Int:=if(nbI a b i e).2=0 then (min i (nbI a b i e).1,e,0)else (0,0,(nbI a b i e).2)
def Vu (u:Int×Int×Int):Ak:= .tuple #[.agg #[Aa Ab u.1,Aa Ac u.2.1],Aa Ab u.2.2]
theorem Zh (a b i e:Int) (w:Aj) (hs:okS a b=true) (he:0<=e) (hQ:Qt w):
  Al Do 160 #[.agg #[a,b],i,Aa Ac e] w (Gy (Vu (Ig a b i e)) w):=by
 obtain⟨R,hR⟩:=ey (Ig a b i e);rw[hR];have HR:=Ah hR;have HS:=Ah hs;obtain⟨n1,n2⟩:=gN w (.cells #[a,b] 25) (.cells #[Aa Ab 0,Aa Ac 0] 194);have ci:Below w.heap.size w ((w.alloc (.cells #[a,b] 25)).alloc (.cells #[Aa Ab 0,Aa Ac 0] 194)):=((Ag _ _).alloc (Am _) _).alloc Gx _;have ap:w.heap.size+1<((w.alloc (.cells #[a,b] 25)).alloc (.cells #[Aa Ab 0,Aa Ac 0] 194)).heap.size:=Gx;clear hR hs;go_enter Tryz.func160,Tryz.ntmps160;go_upto_region 1 with fail;generalize (w.alloc _).alloc _=W at n1 n2 ci ap⊢;obtain⟨N,hN⟩:=ez w.heap.size;rw[<-hN]at n1 n2 ap⊢;have db:=Ah hN;have N2:=Ah n2;obtain⟨⟨x0,x1⟩,_⟩:=Hn n1;clear n1 n2 hN;go_wp2_with fail;refine(Ji a b i e _ HS.out he (hQ.below ci)).mono ?_;rintro e' w2 ⟨rfl,aj⟩;have dt:Below w.heap.size w w2:=ci.trans (aj.mono ci.size);have M2:=Ah (kept aj N2.out ap);obtain⟨⟨r0,r1⟩,z0,z1⟩:=Hn M2.out;obtain⟨⟨id,ie⟩,hid⟩:=ey (nbI a b i e);rw[hid];unfold eQ;dsimp only;have PN:=Ah hid;have h9:=db.out;clear x0 x1 aj N2 hid;by_cases hne:ie=0
 ·subst hne;by_cases hmi:id<i
  ·have am:R=(id,e,0):=by rw[<-HR.out];unfold Ig;rw[PN.out,Hd rfl,Int.min_eq_right Gu]
   have HF:=Ah am;clear am h9;go_wp2_with fail;refine Ai (v:=Vu (id,e,0)) (by simp[results,Tryz.results160,go_sem,r0,r1,Vu]) rfl ⟨by rw[HF.out],?_⟩;have h9:=db.out;exact(dt.setCell Hu _).setCell Hu _
  ·have am:R=(i,e,0):=by rw[<-HR.out];unfold Ig;rw[PN.out,Hd rfl,Int.min_eq_left Gu]
   have HF:=Ah am;clear am h9;go_wp2_with fail;refine Ai (v:=Vu (i,e,0)) (by simp[results,Tryz.results160,go_sem,r0,r1,Vu]) rfl ⟨by rw[HF.out],?_⟩;have h9:=db.out;exact(dt.setCell Hu _).setCell Hu _
 ·have am:R=(0,0,ie):=by rw[<-HR.out];unfold Ig;rw[PN.out,Gz hne]
  have hb:(ie != 0)=true:=by simpa using hne
  have HF:=Ah am;clear am h9 hne;go_wp2_with fail;refine Ai (v:=Vu (0,0,ie)) (by simp[results,Tryz.results160,go_sem,r0,r1,Vu]) rfl ⟨by rw[HF.out],?_⟩;have h9:=db.out;exact(dt.setCell Hu _).setCell Hu _
structure Cr where
 c:Int
 e:Int
 k:Int
def Cr.cells (r:Cr):List Ak:=[Aa Ab r.c,Aa Ac r.e,Aa Ac r.k]
def crs (l:List Cr):List Ak:=l.flatMap Cr.cells
theorem kG (r:Cr):r.cells.length=3:=rfl
theorem Bf7 (l:List Cr):(crs l).length=l.length*3:=Ks _ 3 kG l
theorem xM (l:List Cr):∀u∈crs l,u.oneCell'=true:=by
 intro u hu;obtain⟨r,_,hr⟩:=List.mem_flatMap.1 hu;simp only[Cr.cells,List.mem_cons,List.not_mem_nil,or_false]at hr;rcases hr with h|h|h<;>subst h<;>rfl
theorem Xi {w:Aj} {A:Option Ci} {l:List Cr} (h:Rd w A 3 l.length (crs l)) (i:Nat) (hi:i<l.length):
  ∃b o,A=Af ⟨b,o,Ae⟩/\b<w.heap.size/\w.cell? ⟨b,o+i*3,Ae⟩=Af (Aa Ab l[i].c)/\w.cell? ⟨b,o+i*3+1,Ae⟩=Af (Aa Ac l[i].e)/\w.cell? ⟨b,o+i*3+2,Ae⟩=Af (Aa Ac l[i].k):=by
 obtain⟨b,o,e,hb,hc⟩:=h.2 Gu;refine⟨b,o,e,hb,?_,?_,?_⟩
 ·exact hc (i*3+0) _ ((Iv _ 3 kG l i 0 hi Gu).trans rfl)
 ·exact hc (i*3+1) _ ((Iv _ 3 kG l i 1 hi Gu).trans rfl)
 ·exact hc (i*3+2) _ ((Iv _ 3 kG l i 2 hi Gu).trans rfl)
def Kv (c e c' e':Int):Int:=if c=c' then e-e' else c-c'
def Cr.fit (r:Cr):Prop:=(0<=r.c/\r.c<=1024)/\(0<=r.e/\r.e<=255)/\(0<=r.k/\r.k<=255)
theorem aA (c e k:Int) (w:Aj):
  Al Do 161 #[.agg #[c,Aa Ac e,Aa Ac k]] w (Gy (.agg #[c,Aa Ac e]) w):=by
 go_enter Tryz.func161,Tryz.ntmps161;go_wp2_with fail;refine Ai (v:= .agg #[c,Aa Ac e]) (by simp[results,Tryz.results161,go_sem]) rfl ⟨rfl,?_⟩
 repeat' (first|exact Ag _ _|refine Below.drew ?_|refine Below.setCell ?_ Gx _|refine Below.alloc ?_ Gx _)
theorem iR (c e c' e':Int) (w:Aj) (hc:0<=c/\c<=1024) (hc':0<=c'/\c'<=1024) (he:0<=e/\e<=255) (GR:0<=e'/\e'<=255):
  Al Do 162 #[.agg #[c,Aa Ac e],.agg #[c',Aa Ac e']] w (Gy (Aa Ab (Kv c e c' e')) w):=by
 obtain⟨h1,h2⟩:=hc;obtain⟨h3,h4⟩:=hc';obtain⟨h5,h6⟩:=he;obtain⟨h7,h8⟩:=GR;obtain⟨R,hR⟩:=ey (Kv c e c' e');rw[hR];have HR:=Ah hR;clear hR;by_cases fy:c=c'
 ·have hb:(c != c')=false:=by simpa using fy
  have vn:=Ah fy;clear fy;have k1:Ab.wrap e=e:=Ca _ Gu;have k2:Ab.wrap e'=e':=Ca _ Gu;go_enter Tryz.func162,Tryz.ntmps162;go_wp2;go_ret;exact⟨Iw (by rw[<-HR.out];unfold Kv;rw[Hd vn.out]),((Ag _ _).alloc (Am _) _).alloc Gx _⟩
 ·have hb:(c != c')=true:=by simpa using fy
  have vn:=Ah fy;clear fy;go_enter Tryz.func162,Tryz.ntmps162;go_wp2;go_ret;exact⟨Iw (by rw[<-HR.out];unfold Kv;rw[Gz vn.out]),((Ag _ _).alloc (Am _) _).alloc Gx _⟩
def isK (k:Int):Bool:=decide (1<=k)&&decide (k<=3)
theorem tN (k:Int) (w:Aj):Al Do 159 #[Aa Ac k] w λe w'=>e= .returned (.bool (isK k))/\w=w':=by
 obtain⟨R,hR⟩:=ey (isK k);rw[hR];have HR:=Ah hR;clear hR;go_enter Tryz.func159,Tryz.ntmps159;go_wp2_with fail
 all_goals go_ret
 ·exact⟨Rq (by rw[<-HR.out];unfold isK;rw[Lb (show 1<=k by omega),Bool.true_and]),rfl⟩
 ·exact⟨Rq (by rw[<-HR.out];unfold isK;rw[Ly (show¬1<=k by omega),Bool.false_and]),rfl⟩
theorem mK (r:Cr) (w:Aj):Al Do 158 #[.agg #[Aa Ab r.c,Aa Ac r.e,Aa Ac r.k]] w (Gy (.bool (!isK r.k)) w):=by
 obtain⟨R,hR⟩:=ey (isK r.k);rw[hR];have HR:=Ah hR;clear hR;go_enter Tryz.func158,Tryz.ntmps158;go_wp2_with fail;refine(tN r.k _).mono ?_;rintro e w2 ⟨rfl,rfl⟩;rw[HR.out]
 cases R
 ·go_wp2;go_ret;exact⟨rfl,(Ag _ _).alloc (Am _) _⟩
 ·go_wp2;go_ret;exact⟨rfl,(Ag _ _).alloc (Am _) _⟩
theorem oU (A:Option Ci) (l:List Cr) (n c:Nat) (w:Aj) (hn:n=l.length) (h:Rd w A 3 n (crs l)) (hk:∀r∈l,isK r.k=true) (hl:n<=1000000):
  Al Do 157 #[Ad A n c,.func (.func 158) #[] #[]] w (Gy (.bool false) w):=by
 have zm:Al Do 211 #[Ad A n c,.func (.func 158) #[] #[]] w (Gy (Aa Ab (-1)) w):=by
  subst hn;go_enter Tryz.func211,Tryz.ntmps211;go_wp2
  go_loopw [5,8] (λ_ i wr=>∃k:Nat,k<=l.length/\i= Aa Ab k/\Below w.heap.size w wr) (λ_ i _=>l.length-(intOf i).toNat)
  case atStart=>exact⟨0,Gu,rfl,Ag _ _⟩
  obtain⟨k,vc,rfl,jx⟩:=hrel;by_cases ad:k<l.length
  ·obtain⟨b,o,rfl,cj,c0,c1,c2⟩:=Xi (h.below jx) k ad;have jn:=hk l[k] (Ay _);generalize l[k]=r at c0 c1 c2 jn;have vo:=Ah jn;clear jn;go_wp2_with fail;refine(mK r _).mono ?_;rintro e w2 ⟨rfl,aj⟩;rw[vo.out];have dt:Below w.heap.size w w2:=jx.trans (aj.mono jx.size);go_wp2
   go_roundw
   case rel=>exact⟨k+1,Gu,by go_num,dt⟩
   case measure=>simp[intOf];omega
  ·go_wp2;go_ret;exact⟨rfl,jx⟩
 have CG:=Ah zm;clear zm hn h hk;go_enter Tryz.func157,Tryz.ntmps157;go_wp2_with fail;refine CG.out.mono ?_;rintro e w2 ⟨rfl,aj⟩;go_wp2;go_ret;exact⟨rfl,aj⟩
structure Lq (a b:Int) (l:List Cr):Prop where
 sheet:okS a b=true
 kind:∀r∈l,isK r.k=true
 name:∀r∈l,Ig a b r.c r.e=(r.c,r.e,0)
 fit:∀r∈l,r.fit
 asc:l.Pairwise λr q=>Kv r.c r.e q.c q.e<0
 len:l.length<=1000000
theorem aY (a b:Int) (A:Option Ci) (l:List Cr) (n c:Nat) (w:Aj) (hn:n=l.length) (h:Rd w A 3 n (crs l)) (hp:Lq a b l) (hQ:Qt w):
  Al Do 100 #[.agg #[a,b,Ad A n c]] w (Gy (Aa Ab 0) w):=by
 have HN:=Ah hn;have dr:=Ah h;have HP:=Ah hp;have hlen:n<=1000000:=oHx hp.len;have ff:(w.alloc (.cells #[a,b,Ad A n c] 28)).heap[w.heap.size]? =Af (.cells #[a,b,Ad A n c] 28 (0,0)):=Bz w _;have ci:Below w.heap.size w (w.alloc (.cells #[a,b,Ad A n c] 28)):=(Ag _ _).alloc (Am _) _;have ap:w.heap.size<(w.alloc (.cells #[a,b,Ad A n c] 28)).heap.size:=Gx;clear hn h hp;go_enter Tryz.func100,Tryz.ntmps100;go_upto_region 1 with fail;generalize w.alloc _=W at ff ci ap⊢;generalize w.heap.size=N at ff ap⊢;have N1:=Ah ff;obtain⟨⟨x0,x1,x2⟩,_⟩:=He ff;clear ff;go_wp2_with fail;refine(Ju a b _).mono ?_;rintro e w2 ⟨rfl,aj⟩;rw[HP.out.sheet,Ls];have dt:Below w.heap.size w w2:=ci.trans (aj.mono ci.size);have M1:=Ah (kept aj N1.out ap);obtain⟨⟨y0,y1,y2⟩,_⟩:=He M1.out;have ca:N<w2.heap.size:=Bq ap aj.size;clear x0 x1 x2 aj N1;go_wp2_with fail;refine(oU A l n c _ HN.out (dr.out.below dt) HP.out.kind hlen).mono ?_;rintro e w3 ⟨rfl,bm⟩;have jt:Below w.heap.size w w3:=dt.trans (bm.mono dt.size);have P1:=Ah (kept bm M1.out ca);obtain⟨⟨z0,z1,z2⟩,_⟩:=He P1.out;have od:N<w3.heap.size:=Bq ca bm.size;clear y0 y1 y2 bm M1;go_wp2
 go_loopw [5,6,7,21] (λ_ _ _ i wr=>∃k:Nat,k<=n/\i= Aa Ab k/\wr.heap[N]? =Af (.cells #[a,b,Ad A n c] 28 (0,0))/\N<wr.heap.size/\Below w.heap.size w wr) (λ_ _ _ i _=>n-(intOf i).toNat)
 case atStart=>exact⟨0,Gu,rfl,P1.out,od,jt⟩
 obtain⟨k,hk,rfl,DG,hNr,jx⟩:=hrel;have HBK:=Ah DG;obtain⟨⟨g0,g1,g2⟩,_⟩:=He DG;have ul:=jx.size;clear z0 z1 z2 DG;by_cases ad:k<n
 ·have bc:k<l.length:=oHx HN.out;have be:=dr.out.below jx;rw[HN.out]at be;obtain⟨bb,o,rfl,cj,c0,c1,c2⟩:=Xi be k bc;have jw:=HP.out.name l[k] (Ay _);have BL:=HP.out.fit l[k] (Ay _);generalize l[k]=r at c0 c1 c2 jw BL;have EL:=Ah jw;have he0:0<=r.e:=BL.2.1.1;clear jw be BL;have q1:(k:Int)<(n:Int):=Gu;go_wp2_with fail;have sc:=hQ.below (jx.alloc ul (.cells #[Aa Ab r.c,Aa Ac r.e,Aa Ac r.k] 192));refine(Zh a b r.c r.e _ HP.out.sheet he0 sc).mono ?_;rintro e w4 ⟨rfl,ct⟩;rw[EL.out];unfold Vu;dsimp only;have BU:=ct.size;simp only[World.size_alloc]at BU;have DE:Below w.heap.size w w4:=(jx.alloc ul _).trans (ct.mono Hu);have m1:w4.heap[wr.heap.size]? =Af (.cells #[Aa Ab r.c,Aa Ac r.e,Aa Ac r.k] 192 (0,0)):=kept ct (Bz wr _) Gx;have m2:w4.heap[N]? =Af (.cells #[a,b,Ad (Af ⟨bb,o,Ae⟩) n c] 28 (0,0)):=kept ct ((Eg _ _ _ hNr).trans HBK.out) Hu;have k1:(w4.alloc (.cells #[Aa Ab r.c,Aa Ac r.e] 194)).heap[wr.heap.size]? =Af (.cells #[Aa Ab r.c,Aa Ac r.e,Aa Ac r.k] 192 (0,0)):=(Eg _ _ _ Gu).trans m1;have k2:(w4.alloc (.cells #[Aa Ab r.c,Aa Ac r.e] 194)).heap[w4.heap.size]? =Af (.cells #[Aa Ab r.c,Aa Ac r.e] 194 (0,0)):=Bz _ _;have k3:(w4.alloc (.cells #[Aa Ab r.c,Aa Ac r.e] 194)).heap[N]? =Af (.cells #[a,b,Ad (Af ⟨bb,o,Ae⟩) n c] 28 (0,0)):=(Eg _ _ _ Gu).trans m2;have da:Below w.heap.size w (w4.alloc (.cells #[Aa Ab r.c,Aa Ac r.e] 194)):=DE.alloc DE.size _;have JF:N<(w4.alloc (.cells #[Aa Ab r.c,Aa Ac r.e] 194)).heap.size:=Hu;go_upto_region 10 with fail;generalize w4.alloc _=V at k1 k2 k3 da JF⊢;obtain⟨p1,sg⟩:=ez wr.heap.size;obtain⟨p2,lx⟩:=ez w4.heap.size;rw[<-sg]at k1⊢;rw[<-lx]at k2⊢;obtain⟨⟨f0,f1,f2⟩,_⟩:=He k1;obtain⟨⟨u0,u1⟩,_⟩:=Hn k2;have K3:=Ah k3
  clear sg lx k1 k2 k3 m1 m2 c0 c1 c2 g0 g1 g2 ct DE
  go_region_held3 (λw'=>w'.cell? ⟨p2,0,Ae⟩=Af (Aa Ab r.c)/\w'.cell? ⟨p2,1,Ae⟩=Af (Aa Ac r.e)/\w'.cell? ⟨p1,0,Ae⟩=Af (Aa Ab r.c)/\w'.cell? ⟨p1,1,Ae⟩=Af (Aa Ac r.e)/\w'.cell? ⟨p1,2,Ae⟩=Af (Aa Ac r.k))
   (first|exact⟨u0,u1,f0,f1,f2⟩|exact⟨Gv (Hk ba) u0,Gv (Hk ba) u1,Gv (Hk ba) f0,Gv (Hk ba) f1,Gv (Hk ba) f2⟩|go_keep)
   (first|(go_at_call 161;(with_reducible refine(aA _ _ _ _).mono ?_);rintro e w6 ⟨rfl,ba⟩)|fail)
  have dc:=Hk ba;have K6:=Ah (kept dc K3.out JF);have hb6':Below w.heap.size w w6:=da.trans (dc.mono da.size);have hN6:N<w6.heap.size:=Bq JF dc.size;clear u0 u1 f0 f1 f2 ba dc;go_wp2
  go_roundw
  case rel=>exact⟨k+1,Gu,by go_num,K6.out,hN6,hb6'⟩
  case measure=>simp[intOf];omega
 ·have q1:¬(k:Int)<(n:Int):=Gu;clear ad;go_wp2_with fail;obtain⟨wo,rfl⟩:∃wo:Aj,wo=wr:=⟨_,rfl⟩
  go_loopw [8] (λs8 wr=>∃i:Nat,1<=i/\(i<=n∨i=1)/\s8= Aa Ab i/\wr.heap[N]? =Af (.cells #[a,b,Ad A n c] 28 (0,0))/\N<wr.heap.size/\Below w.heap.size w wr) (λs8 _=>n+1-(intOf s8).toNat)
  case atStart=>exact⟨1,Gu,Gu,rfl,HBK.out,hNr,jx⟩
  obtain⟨i,zi,BM,rfl,j9,ux,qs⟩:=hrel;have BZ:=Ah j9;obtain⟨⟨d0,d1,d2⟩,_⟩:=He j9;clear g0 g1 g2 j9;by_cases ad:i<n
  ·obtain⟨p,hp⟩:∃p,i=p+1:=⟨i-1,Gu⟩;have bv:i<l.length:=oHx HN.out;have dw:p<l.length:=Gu;have be:=dr.out.below qs;have VR:=HN.out;rw[VR]at be;obtain⟨bb,o,hA,cj,c0,c1,c2⟩:=Xi be i bv;obtain⟨bb',o',dq,_,e0,e1,e2⟩:=Xi be p dw;obtain⟨rfl,rfl⟩:bb=bb'/\o=o':=by rw[hA]at dq;simpa using dq
   have BL:=HP.out.fit l[i] (Ay _);have RH:=HP.out.fit l[p] (Ay _);have F4:=List.pairwise_iff_getElem.1 HP.out.asc p i dw bv Gu;obtain⟨x,hx⟩:=ey (l[i]);obtain⟨y,hy⟩:=ey (l[p]);rw[hx]at c0 c1 c2 BL F4;rw[hy]at e0 e1 e2 RH F4;obtain⟨O,hO⟩:=ey (Kv y.c y.e x.c x.e);rw[hO]at F4;have HOO:=Ah hO;have ze:=BL.1;have zf:=BL.2.1;have VH:=RH.1;have hf4:=RH.2.1;have HPP:=Ah hp;have w1:(i:Int)<(n:Int):=Gu;have XB:Ab.wrap ((i:Int)-1)=(p:Int):=by rw[Ca _ Gu];omega
   have w3':(p:Int)<(n:Int):=Gu;have w4':(0:Int)<=(p:Int):=Gu;have w5:(0:Int)<=(i:Int):=Gu;have T6:decide (0<=O)=false:=Hu;clear be VR dq hx hy hO hp BL RH;subst hA;go_wp2_with fail
   go_region_held3 (λw'=>w'.cell? ⟨N,2,Ae⟩=Af (Ad (Af ⟨bb,o,Ae⟩) n c)/\w'.cell? ⟨bb,o+i*3,Ae⟩=Af (Aa Ab x.c)/\w'.cell? ⟨bb,o+i*3+1,Ae⟩=Af (Aa Ac x.e)/\w'.cell? ⟨bb,o+i*3+2,Ae⟩=Af (Aa Ac x.k)/\w'.cell? ⟨bb,o+p*3,Ae⟩=Af (Aa Ab y.c)/\w'.cell? ⟨bb,o+p*3+1,Ae⟩=Af (Aa Ac y.e)/\w'.cell? ⟨bb,o+p*3+2,Ae⟩=Af (Aa Ac y.k))
    (first|exact⟨d2,c0,c1,c2,e0,e1,e2⟩|go_keep)
    (first
     |(go_at_call 161;(with_reducible refine(aA _ _ _ _).mono ?_);rintro e w6 ⟨rfl,ba⟩;have qs:=qs.trans ((Hk ba).mono qs.size);have BZ:=Ah (kept (Hk ba) BZ.out ux);have ux:=Bq ux (Hk ba).size;have d2:=Gv (Hk ba) d2;have c0:=Gv (Hk ba) c0;have c1:=Gv (Hk ba) c1;have c2:=Gv (Hk ba) c2;have e0:=Gv (Hk ba) e0;have e1:=Gv (Hk ba) e1;have e2:=Gv (Hk ba) e2)
     |(go_at_call 161;(with_reducible refine(aA _ _ _ _).mono ?_);rintro e w6 ⟨rfl,ba⟩;have qs:=qs.trans (ba.mono qs.size);have BZ:=Ah (kept ba BZ.out ux);have ux:=Bq ux ba.size;have d2:=Gv ba d2;have c0:=Gv ba c0;have c1:=Gv ba c1;have c2:=Gv ba c2;have e0:=Gv ba e0;have e1:=Gv ba e1;have e2:=Gv ba e2)
     |(go_at_call 162;(with_reducible refine(iR y.c y.e x.c x.e _ VH ze hf4 zf).mono ?_);rintro e w6 ⟨rfl,ba⟩;rw[HOO.out];have qs:=qs.trans (ba.mono qs.size);have BZ:=Ah (kept ba BZ.out ux);have ux:=Bq ux ba.size;have d2:=Gv ba d2;have c0:=Gv ba c0;have c1:=Gv ba c1;have c2:=Gv ba c2;have e0:=Gv ba e0;have e1:=Gv ba e1;have e2:=Gv ba e2)
     |fail)
   all_goals
    go_wp2
    go_roundw
    case rel=>exact⟨i+1,Gu,Gu,by go_num,BZ.out,ux,qs⟩
    case measure=>simp[intOf];omega
  ·have q2:¬(i:Int)<(n:Int):=Gu;go_wp2;go_ret;exact⟨rfl,qs⟩
def Hf (a:Int) (i:Nat):Cl:=⟨(i:Int)/4%a,(i:Int)/4/a,i%4⟩
def Nm (l:List Cr) (c e:Int):Bool:=l.any λr=>decide (r.c=c)&&decide (r.e=e)
def yK (a b c e:Int):(Int×Int)×Int:=if Ig a b c e=(c,e,0)then Xc (Hf a c.toNat) e.toNat else ((0,0),7)
def Ur (l:Int×Int):Mv×Int:=if okL l.1 l.2 then (ofL l.1 l.2,0)else (mv0,1)
def La (a b:Mv):Mv×Int:=if a.ok&&b.ok then Vt a b else (mv0,1)
def Pv (m:Mv) (c:Cl):Cl×Int:=if m.ok&&c.ok then Li m c else (cl0,1)
def Kh (a b:Int) (l:List Cr) (out:List Mv) (id e:Nat):Mv:=
 if Nm l (Ig a b id e).1 (Ig a b id e).2.1 then (La (Ur (yK a b (Ig a b id e).1 (Ig a b id e).2.1).1).1 (out.getD id mv0)).1 else out.getD id mv0
structure RS where
 out:List Mv
 known:List Bool
 wait:List Nat
def Ox (a b:Int) (l:List Cr) (id e:Nat) (s:RS):Option RS:=
 if(nbI a b id e).2≠0 then Af s
 else
  let n:=(nbI a b id e).1.toNat
  let m:=Kh a b l s.out id e
  let s':RS:=if s.known.getD n false then s else⟨s.out.set n m,s.known.set n true,s.wait++[n]⟩
  if s'.out.getD n mv0=m then Af s' else Ae
def Qr (a b:Int) (l:List Cr) (id:Nat) (s:RS):Option RS:=(Ox a b l id 0 s).bind λs=>(Ox a b l id 1 s).bind λs=>Ox a b l id 2 s
def Sa (a b:Int) (l:List Cr):Nat->RS->Option (List Mv)
 |0,s=>Af s.out
 |f+1,s=>match s.wait with
  |[]=>Af s.out
  |id::r=>(Qr a b l id ⟨s.out,s.known,r⟩).bind (Sa a b l f)
def Hg (a b:Int):Nat:=(4*a*b).toNat
def Uh (a b:Int) (l:List Cr):Option (List Mv):=Sa a b l (Hg a b+1) ⟨Ba (Hg a b) mv0,true::Ba (Hg a b-1) false,[0]⟩
def Lr (a:Int) (root:Mv) (l:List Mv) (i:Nat):Int:=if(La (l.getD i mv0) root).2≠0 then (La (l.getD i mv0) root).2 else (Pv (La (l.getD i mv0) root).1 (Hf a i)).2
def Ia (a b:Int) (l:List Cr) (root:Mv):(List Mv×List Cl)×Int:=
 if root.ok=false then (([],[]),1)
 else match Uh a b l with
  |none=>(([],[]),11)
  |some m=>match(Dr m.length).find? λi=>Lr a root m i≠0 with
   |some i=>(([],[]),Lr a root m i)
   |none=>((m.map λx=>(La x root).1,(Dr m.length).map λi=>(Pv (La (m.getD i mv0) root).1 (Hf a i)).1),0)
def Rf (m:Mv):Bool:=m.ok&&decide (4<=m.t)
def upF (a b:Int) (l:List Cr) (root:Mv):List Bool×Int:=
 if(Ia a b l root).2≠0 then ([],(Ia a b l root).2)else ((Ia a b l root).1.1.map λm=> !Rf m,0)
structure Stk where
 c:Cl
 ls:List Nat
def Ko (n:Nat) (l:List Stk) (i:Nat):Bool:=match l[i]? with
 |none=>false
 |some x=> !x.c.ok||(match i with|0=>false|j+1=>match l[j]? with|none=>false|some y=>decide (0<=Kc y.c x.c))||x.ls.isEmpty||x.ls.any λid=>decide (n<=id)
def Hl (l:List Stk):List Nat:=l.flatMap (·.ls)
def chkS (n:Nat) (l:List Stk):Int:=
 if(Dr l.length).any (Ko n l)then 1 else if¬(Hl l).Nodup then 8 else if(Hl l).length<n then 6 else 0
def mvR (r:Mv×Int):Ak:= .tuple #[r.1.v,Aa Ab r.2]
theorem oZ (t:Nat) (x y:Int) (w:Aj) (ht:t<=255):Al Do 126 #[.agg #[Aa Ac t,x,y]] w (Gy (mvR (gJ ⟨t,x,y⟩)) w):=by
 obtain⟨R,hR⟩:=ey (gJ ⟨t,x,y⟩);rw[hR];have HR:=Ah hR;have HC:=Ah (show 0<=(t:Int)/\(t:Int)<=255 by omega);have H:=((Bx.start w).new #[Aa Ac t,x,y] 30 rfl).new #[Aa Ac 0,Aa Ab 0,Aa Ab 0] 30 (N:=w.heap.size+1) Gx;clear hR;go_enter Tryz.func126,Tryz.ntmps126;go_upto_region 1 with fail;generalize (w.alloc _).alloc _=W at H⊢;generalize w.heap.size=N at H⊢;obtain⟨⟨a0,a1,a2⟩,_⟩:=He (H.b 0);go_wp2_with fail;refine(Jo t x y _ HC.out).mono ?_;rintro e w2 ⟨rfl,hb⟩;have H2:=H.call hb;obtain⟨⟨b0,b1,b2⟩,_⟩:=He (H2.b 0);obtain⟨⟨c0,c1,c2⟩,d0,d1,d2⟩:=He (H2.b 1);clear a0 a1 a2 hb H
 cases hk:okM t x y
 ·have am:R=(mv0,3):=by rw[<-HR.out];unfold gJ Mv.ok;rw[hk];rfl
  rw[Qq];clear hk;go_wp2_with fail;have H3:=((H2.set 1 0 rfl (Aa Ac 0)).set 1 1 rfl (Aa Ab 0)).set 1 2 rfl (Aa Ab 0);exact Ai (Hj rfl rfl (H3.range 1 rfl) Fh rfl Gw) rfl ⟨by rw[am];rfl,H3.below⟩
 ·have am:R=(⟨t,x,y⟩,0):=by rw[<-HR.out];unfold gJ Mv.ok;rw[hk];rfl
  rw[Ls];clear hk;go_wp2_with fail;have H3:=((H2.set 1 0 rfl (Aa Ac t)).set 1 1 rfl (Aa Ab x)).set 1 2 rfl (Aa Ab y);exact Ai (Hj rfl rfl (H3.range 1 rfl) Fh rfl Gw) rfl ⟨by rw[am];rfl,H3.below⟩
theorem Ab6 (m:Mv) (w:Aj) (ht:m.t<=255):Al Do 129 #[.agg #[Aa Ac m.t,Aa Ab m.x,Aa Ab m.y]] w (Gy (.bool (Rf m)) w):=by
 obtain⟨R,hR⟩:=ey (Rf m);rw[hR];have HR:=Ah hR;obtain⟨t,x,y⟩:=m;dsimp only at ht⊢;have HC:=Ah (show 0<=(t:Int)/\(t:Int)<=255 by omega);have H:=(Bx.start w).new #[Aa Ac t,x,y] 30 rfl;clear hR;go_enter Tryz.func129,Tryz.ntmps129;go_upto_region 1 with fail;generalize w.alloc _=W at H⊢;generalize w.heap.size=N at H⊢;obtain⟨⟨a0,a1,a2⟩,_⟩:=He (H.b 0);go_wp2_with fail;refine(Jo t x y _ HC.out).mono ?_;rintro e w2 ⟨rfl,hb⟩;have H2:=H.call hb;obtain⟨⟨b0,b1,b2⟩,_⟩:=He (H2.b 0);clear a0 a1 a2 hb H
 cases hk:okM t x y
 ·have am:R=false:=by rw[<-HR.out];unfold Rf Mv.ok;rw[hk];rfl
  rw[Qq];clear hk;go_wp2;go_ret;exact⟨by subst am;first|rfl|simp,H2.below⟩
 ·have am:R=decide (4<=t):=by rw[<-HR.out];unfold Rf Mv.ok;rw[hk];rfl
  have HF:=Ah am;rw[Ls];clear hk am;by_cases h4:4<=t
  ·have h4':(4:Int)<=t:=Gu;go_wp2;go_ret;exact⟨Rq (by rw[HF.out,Lb h4];first|done|(simp;done)|(simp;omega)),H2.below⟩
  ·have h4':¬(4:Int)<=t:=Gu;go_wp2;go_ret;exact⟨Rq (by rw[HF.out,Ly h4];first|done|(simp;done)|(simp;omega)),H2.below⟩
theorem pH (s t:Nat) (hs:s<8) (ht:t<8):Kz (Im (mat s) (mat t))<8/\Im (mat s) (mat t)=mat (Kz (Im (mat s) (mat t))):=by
 have:∀s<8,∀t<8,Kz (Im (mat s) (mat t))<8/\Im (mat s) (mat t)=mat (Kz (Im (mat s) (mat t))):=Ha;exact this s hs t ht
theorem Mv.ok_iff {m:Mv}:m.ok=true↔m.t<8/\(-16384<=m.x/\m.x<=16384)/\(-16384<=m.y/\m.y<=16384)/\(m.x+m.y)%2=0:=by
 unfold Mv.ok;rw[Ry];omega
theorem dP {w:Aj} {P b o j:Nat} {v x:Ak} (hne:b≠P) (h:w.cell? ⟨b,o,Ae⟩=Af v):(w.setCell ⟨P,j,Ae⟩ x).cell? ⟨b,o,Ae⟩=Af v:=by
 rw[World.cell?_setCell_other _ _ _ _ Gx];exact h
theorem Jd {w:Aj} {P b o i j k:Nat} {v x y z:Ak} (hne:b≠P) (h:w.cell? ⟨b,o,Ae⟩=Af v):(((w.setCell ⟨P,i,Ae⟩ x).setCell ⟨P,j,Ae⟩ y).setCell ⟨P,k,Ae⟩ z).cell? ⟨b,o,Ae⟩=Af v:=
 dP hne (dP hne (dP hne h))
theorem Bn7 (m n:Mv) (w:Aj) (hm:m.ok=true) (hn:n.ok=true) (hT:Tn w):
  Al Do 71 #[.agg #[Aa Ac m.t,Aa Ab m.x,Aa Ab m.y],.agg #[Aa Ac n.t,Aa Ab n.x,Aa Ab n.y]] w (Gy (mvR (Vt m n)) w):=by
 obtain⟨⟨⟨rt,rx,ry⟩,re⟩,hR⟩:∃R,Vt m n=R:=⟨_,rfl⟩;rw[hR];obtain⟨m1,⟨m2,m3⟩,⟨m4,m5⟩,_⟩:=Mv.ok_iff.1 hm;obtain⟨n1,⟨n2,n3⟩,⟨n4,n5⟩,_⟩:=Mv.ok_iff.1 hn;obtain⟨k1,k2⟩:=pH m.t n.t m1 n1;obtain⟨t,x,y⟩:=m;obtain⟨u,p,q⟩:=n;dsimp only at m1 m2 m3 m4 m5 n1 n2 n3 n4 n5 k1 k2⊢;have GK:=λw=>lH u x y w Gu Gu;have VE:=λw=>Ba9 t u w;obtain⟨⟨K5,K7⟩,K8,K9⟩:=fC u (x:=x) (y:=y) (B:=16384) Gu Gu;unfold Vt at hR;dsimp only at hR;generalize Kz (Im (mat t) (mat u))=r at k1 k2 hR;rw[k2]at VE;obtain⟨⟨sx,sy⟩,hs⟩:=ey (Ic (mat u) x y);rw[hs]at GK hR K5 K7 K8 K9;dsimp only at GK hR K5 K7 K8 K9;obtain⟨⟨a1,a2,a3,a4⟩,bi⟩:=ey (mat t);obtain⟨⟨b1,b2,b3,b4⟩,hau⟩:=ey (mat u);have JN:=λ(w':Aj) (h:Tn w')=>h.at' t m1;have x7:=λ(w':Aj) (h:Tn w')=>h.at' u n1;rw[bi]at VE JN;rw[hau]at GK VE x7;have vh:=λw h=>uN r k1 w h;obtain⟨⟨c1,c2,c3,c4⟩,zc⟩:=ey (mat r);rw[zc]at vh;unfold Ca3 at VE;rw[zc]at VE;dsimp only at VE JN x7 GK vh;have D5:=λw=>oZ r (sx+p) (sy+q) w Gu;rw[hR]at D5;have e1:okM t x y=true:=hm;have e2:okM u p q=true:=hn;have E1:=Ah e1;have E2:=Ah e2;have EM:=Ah GK;have YF:=Ah VE;have IT:=Ah JN;have HCU:=Ah x7;have HNUM:=Ah vh;have HLIM:=Ah D5;have B1:=Ah (show 0<=(t:Int)/\(t:Int)<=255 by omega);have B2:=Ah (show 0<=(u:Int)/\(u:Int)<=255 by omega);have w1:Ab.wrap (sx+p)=sx+p:=Ca _ Gu;have XB:Ab.wrap (sy+q)=sy+q:=Ca _ Gu;have q1:(t:Int)<8:=Gu;have q2:(u:Int)<8:=Gu;have H:=(((Bx.start w).new #[Aa Ac t,x,y] 30 rfl).new #[Aa Ac u,p,q] 30 (N:=w.heap.size+1) Gx).new #[Aa Ac 0,Aa Ab 0,Aa Ab 0] 30 (N:=w.heap.size+2) Gx;have HT:=Ah hT;clear hR GK VE JN x7 vh D5 e1 e2 hm hn hs bi hau zc k2 hT;go_enter Tryz.func71,Tryz.ntmps71;go_upto_region 1 with fail;generalize ((w.alloc _).alloc _).alloc _=W at H⊢
 generalize w.heap.size=N at H⊢;obtain⟨P,hP⟩:=ez (N+2);rw[<-hP]at H;rw[show N+1+1=P from hP.symm];have MH:N≠P:=Gu;have DS:N+1≠P:=Gu;have xz:0≠P:=oHx HT.out.lt;clear hP;obtain⟨⟨f0,f1,f2⟩,_⟩:=He (H.b 0);obtain⟨⟨g0,g1,g2⟩,_⟩:=He (H.b 1);go_wp2_with fail;refine(Jo t x y _ B1.out).mono ?_;rintro e w2 ⟨rfl,hb⟩;rw[E1.out,Ls];have H2:=H.call hb;clear f0 f1 f2 g0 g1 g2 hb H;obtain⟨⟨f0,f1,f2⟩,_⟩:=He (H2.b 0);obtain⟨⟨g0,g1,g2⟩,_⟩:=He (H2.b 1);go_wp2_with fail;refine(Jo u p q _ B2.out).mono ?_;rintro e w3 ⟨rfl,hb⟩;rw[E2.out,Ls];have H3:=H2.call hb;clear f0 f1 f2 g0 g1 g2 hb H2;obtain⟨⟨f0,f1,f2⟩,_⟩:=He (H3.b 0);obtain⟨⟨g0,g1,g2⟩,_⟩:=He (H3.b 1);have H_:=HT.out.below H3.below;obtain⟨u0,u1,u2,u3⟩:=HCU.out _ H_;go_upto_region 3 with fail
 go_region_held3 (λw'=>w'.cell? ⟨N,1,Ae⟩=Af (Aa Ab x)/\w'.cell? ⟨N,2,Ae⟩=Af (Aa Ab y)/\w'.cell? ⟨N+1,0,Ae⟩=Af (Aa Ac u)/\w'.cell? ⟨0,u*4,Ae⟩=Af (Aa Ab b1)/\w'.cell? ⟨0,u*4+1,Ae⟩=Af (Aa Ab b2)/\w'.cell? ⟨0,u*4+2,Ae⟩=Af (Aa Ab b3)/\w'.cell? ⟨0,u*4+3,Ae⟩=Af (Aa Ab b4))
  (first|exact⟨f1,f2,g0,u0,u1,u2,u3⟩|go_keep)
  (first|(go_at_call 125;(with_reducible refine(EM.out _).mono ?_);rintro e w4 ⟨rfl,ct⟩;have H3:=H3.call (Hk ct);have f1:=Gv (Hk ct) f1;have f2:=Gv (Hk ct) f2;have g0:=Gv (Hk ct) g0;have u0:=Gv (Hk ct) u0;have u1:=Gv (Hk ct) u1;have u2:=Gv (Hk ct) u2;have u3:=Gv (Hk ct) u3)|fail)
 have UE:=HT.out.below H3.below;obtain⟨v0,v1,v2,v3⟩:=IT.out _ UE;obtain⟨u0,u1,u2,u3⟩:=HCU.out _ UE;clear f0 f1 f2 g0 g1 g2;obtain⟨⟨f0,f1,f2⟩,_⟩:=He (H3.b 0);obtain⟨⟨g0,g1,g2⟩,_⟩:=He (H3.b 1);obtain⟨_,z0,z1,z2⟩:=He (H3.b 2);clear H_;go_upto_region 4 with fail
 go_region_held3 (λw'=>w'.cell? ⟨N,0,Ae⟩=Af (Aa Ac t)/\w'.cell? ⟨N+1,0,Ae⟩=Af (Aa Ac u)/\w'.cell? ⟨N+1,1,Ae⟩=Af (Aa Ab p)/\w'.cell? ⟨N+1,2,Ae⟩=Af (Aa Ab q)/\w'.cell? ⟨0,t*4,Ae⟩=Af (Aa Ab a1)/\w'.cell? ⟨0,t*4+1,Ae⟩=Af (Aa Ab a2)/\w'.cell? ⟨0,t*4+2,Ae⟩=Af (Aa Ab a3)/\w'.cell? ⟨0,t*4+3,Ae⟩=Af (Aa Ab a4)/\w'.cell? ⟨0,u*4,Ae⟩=Af (Aa Ab b1)/\w'.cell? ⟨0,u*4+1,Ae⟩=Af (Aa Ab b2)/\w'.cell? ⟨0,u*4+2,Ae⟩=Af (Aa Ab b3)/\w'.cell? ⟨0,u*4+3,Ae⟩=Af (Aa Ab b4))
  (first|exact⟨f0,g0,g1,g2,v0,v1,v2,v3,u0,u1,u2,u3⟩|exact⟨Jd MH f0,Jd DS g0,Jd DS g1,Jd DS g2,Jd xz v0,Jd xz v1,Jd xz v2,Jd xz v3,Jd xz u0,Jd xz u1,Jd xz u2,Jd xz u3⟩|go_keep)
  (first
   |(go_at_call 128;(with_reducible refine(YF.out _).mono ?_);rintro e w5 ⟨rfl,da⟩;have H3:=H3.call (Hk da);have UE:=UE.below (Hk da);have f0:=Gv (Hk da) f0;have g0:=Gv (Hk da) g0;have g1:=Gv (Hk da) g1;have g2:=Gv (Hk da) g2;have v0:=Gv (Hk da) v0;have v1:=Gv (Hk da) v1;have v2:=Gv (Hk da) v2;have v3:=Gv (Hk da) v3;have u0:=Gv (Hk da) u0;have u1:=Gv (Hk da) u1;have u2:=Gv (Hk da) u2;have u3:=Gv (Hk da) u3)
   |(go_at_call 127;(with_reducible refine(HNUM.out _ UE).mono ?_);rintro e w6 ⟨rfl,ba⟩;have H3:=H3.call ba;have f0:=Gv ba f0;have g0:=Gv ba g0;have g1:=Gv ba g1;have g2:=Gv ba g2;have v0:=Gv ba v0;have v1:=Gv ba v1;have v2:=Gv ba v2;have v3:=Gv ba v3;have u0:=Gv ba u0;have u1:=Gv ba u1;have u2:=Gv ba u2;have u3:=Gv ba u3)
   |(go_at_call 126;(with_reducible refine(HLIM.out _).mono ?_);rintro e w7 ⟨rfl,dc⟩;unfold mvR Mv.v;dsimp only;have H3:=H3.call dc;obtain⟨⟨y0,y1,y2⟩,z0,z1,z2⟩:=He (H3.b 2);have f0:=Gv dc f0;have g0:=Gv dc g0;have g1:=Gv dc g1;have g2:=Gv dc g2;have v0:=Gv dc v0;have v1:=Gv dc v1;have v2:=Gv dc v2;have v3:=Gv dc v3;have u0:=Gv dc u0;have u1:=Gv dc u1;have u2:=Gv dc u2;have u3:=Gv dc u3)
   |fail)
 go_wp2_with fail;have H5:=((H3.set 2 0 rfl (Aa Ac rt)).set 2 1 rfl (Aa Ab rx)).set 2 2 rfl (Aa Ab ry);exact Ai (Hj rfl rfl (H5.range 2 rfl) Fh rfl Gw) rfl ⟨rfl,H5.below⟩
theorem Xw (k c:Int) (w:Aj) (di:0<=k):Al Do 67 #[.agg #[Aa Ac k,c]] w (Gy (mvR (Ur (k,c))) w):=by
 obtain⟨R,hR⟩:=ey (Ur (k,c));rw[hR];have HR:=Ah hR;have H:=((Bx.start w).new #[Aa Ac k,c] 48 rfl).new #[Aa Ac 0,Aa Ab 0,Aa Ab 0] 30 (N:=w.heap.size+1) Gx;clear hR;go_enter Tryz.func67,Tryz.ntmps67;go_upto_region 1 with fail;generalize (w.alloc _).alloc _=W at H⊢;generalize w.heap.size=N at H⊢;obtain⟨⟨a0,a1⟩,_⟩:=Hn (H.b 0);go_wp2_with fail;refine(Jn k c _).mono ?_;rintro e w2 ⟨rfl,hb⟩;have H2:=H.call hb;clear a0 a1 hb H;obtain⟨⟨a0,a1⟩,_⟩:=Hn (H2.b 0);obtain⟨⟨c0,c1,c2⟩,d0,d1,d2⟩:=He (H2.b 1)
 cases hL:okL k c
 ·have am:R=(mv0,1):=by rw[<-HR.out];unfold Ur;rw[hL];rfl
  rw[Qq];clear hL;go_wp2_with fail;have H3:=((H2.set 1 0 rfl (Aa Ac 0)).set 1 1 rfl (Aa Ab 0)).set 1 2 rfl (Aa Ab 0);exact Ai (Hj rfl rfl (H3.range 1 rfl) Fh rfl Gw) rfl ⟨by rw[am];rfl,H3.below⟩
 ·obtain⟨l1,l2,l3,l4⟩:=Mu.1 hL;have am:R=(ofL k c,0):=by rw[<-HR.out];unfold Ur;rw[hL];rfl
  have HF:=Ah am;rw[Ls];clear hL am;have h4:k=1∨k=2∨k=3∨k=4:=Gu;rcases h4 with rfl|rfl|rfl|rfl
  ·go_wp2_with fail;have H3:=((H2.set 1 0 rfl (Aa Ac 4)).set 1 1 rfl (Aa Ab (2*c))).set 1 2 rfl (Aa Ab 0);exact Ai (Hj rfl rfl (H3.range 1 rfl) Fh rfl Gw) rfl ⟨by rw[HF.out];rfl,H3.below⟩
  ·go_wp2_with fail;have H3:=((H2.set 1 0 rfl (Aa Ac 6)).set 1 1 rfl (Aa Ab 0)).set 1 2 rfl (Aa Ab (2*c));exact Ai (Hj rfl rfl (H3.range 1 rfl) Fh rfl Gw) rfl ⟨by rw[HF.out];rfl,H3.below⟩
  ·go_wp2_with fail;have H3:=((H2.set 1 0 rfl (Aa Ac 5)).set 1 1 rfl (Aa Ab c)).set 1 2 rfl (Aa Ab c);exact Ai (Hj rfl rfl (H3.range 1 rfl) Fh rfl Gw) rfl ⟨by rw[HF.out];rfl,H3.below⟩
  ·have wn:Ab.wrap (-c)= -c:=Ca _ Gu;go_wp2_with fail;have H3:=((H2.set 1 0 rfl (Aa Ac 7)).set 1 1 rfl (Aa Ab (-c))).set 1 2 rfl (Aa Ab c);exact Ai (Hj rfl rfl (H3.range 1 rfl) Fh rfl Gw) rfl ⟨by rw[HF.out];rfl,H3.below⟩
theorem Bn6 (m n:Mv) (w:Aj) (hm:m.t<=255) (hn:n.t<=255) (h:(m.ok&&n.ok)=false):
  Al Do 71 #[.agg #[Aa Ac m.t,Aa Ab m.x,Aa Ab m.y],.agg #[Aa Ac n.t,Aa Ab n.x,Aa Ab n.y]] w (Gy (mvR (mv0,1)) w):=by
 obtain⟨t,x,y⟩:=m;obtain⟨u,p,q⟩:=n;dsimp only at hm hn⊢;unfold Mv.ok at h;dsimp only at h;have HH:=Ah h;have B1:=Ah (show 0<=(t:Int)/\(t:Int)<=255 by omega);have B2:=Ah (show 0<=(u:Int)/\(u:Int)<=255 by omega);have H:=(((Bx.start w).new #[Aa Ac t,x,y] 30 rfl).new #[Aa Ac u,p,q] 30 (N:=w.heap.size+1) Gx).new #[Aa Ac 0,Aa Ab 0,Aa Ab 0] 30 (N:=w.heap.size+2) Gx;clear h;go_enter Tryz.func71,Tryz.ntmps71;go_upto_region 1 with fail;generalize ((w.alloc _).alloc _).alloc _=W at H⊢;generalize w.heap.size=N at H⊢;obtain⟨P,hP⟩:=ez (N+2);rw[<-hP]at H;rw[show N+1+1=P from hP.symm];clear hP;obtain⟨⟨f0,f1,f2⟩,_⟩:=He (H.b 0);go_wp2_with fail;refine(Jo t x y _ B1.out).mono ?_;rintro e w2 ⟨rfl,hb⟩;have H2:=H.call hb;clear f0 f1 f2 hb H;obtain⟨⟨g0,g1,g2⟩,_⟩:=He (H2.b 1)
 cases h1:okM t x y
 ·rw[Qq];clear h1;obtain⟨⟨c0,c1,c2⟩,d0,d1,d2⟩:=He (H2.b 2);go_wp2_with fail;have H3:=((H2.set 2 0 rfl (Aa Ac 0)).set 2 1 rfl (Aa Ab 0)).set 2 2 rfl (Aa Ab 0);exact Ai (Hj rfl rfl (H3.range 2 rfl) Fh rfl Gw) rfl ⟨rfl,H3.below⟩
 ·have h2:okM u p q=false:=by have:=HH.out;rw[h1]at this;simpa using this
  have HB:=Ah h2;rw[Ls];clear h1 h2;go_wp2_with fail;refine(Jo u p q _ B2.out).mono ?_;rintro e w3 ⟨rfl,hb⟩;rw[HB.out,Qq];have H3:=H2.call hb;clear g0 g1 g2 hb H2;obtain⟨⟨c0,c1,c2⟩,d0,d1,d2⟩:=He (H3.b 2);go_wp2_with fail;have H4:=((H3.set 2 0 rfl (Aa Ac 0)).set 2 1 rfl (Aa Ab 0)).set 2 2 rfl (Aa Ab 0);exact Ai (Hj rfl rfl (H4.range 2 rfl) Fh rfl Gw) rfl ⟨rfl,H4.below⟩
theorem bK (m n:Mv) (w:Aj) (hm:m.t<=255) (hn:n.t<=255) (hT:Tn w):
  Al Do 71 #[.agg #[Aa Ac m.t,Aa Ab m.x,Aa Ab m.y],.agg #[Aa Ac n.t,Aa Ab n.x,Aa Ab n.y]] w (Gy (mvR (La m n)) w):=by
 unfold La
 cases h:(m.ok&&n.ok)
 ·exact Bn6 m n w hm hn h
 ·obtain⟨h1,h2⟩:=Bool.and_eq_true_iff.1 h;exact Bn7 m n w h1 h2 hT
def ptR (x y e:Int):Ak:= .tuple #[.agg #[x,y],e]
theorem pX (m:Mv) (p q:Int) (w:Aj) (hm:m.ok=true) (hp: -10000<=p/\p<=10000) (hq: -10000<=q/\q<=10000) (hT:Tn w):
  Al Do 228 #[.agg #[Aa Ac m.t,Aa Ab m.x,Aa Ab m.y],.agg #[p,q]] w (Gy (ptR (Iu m p q).1 (Iu m p q).2 0) w):=by
 obtain⟨⟨X,Y⟩,hR⟩:=ey (Iu m p q);rw[hR];dsimp only;obtain⟨m1,⟨m2,m3⟩,⟨m4,m5⟩,_⟩:=Mv.ok_iff.1 hm;obtain⟨t,x,y⟩:=m;dsimp only at m1 m2 m3 m4 m5⊢;have GK:=λw=>lH t p q w Gu Gu;obtain⟨⟨K5,K7⟩,K8,K9⟩:=fC t (x:=p) (y:=q) (B:=10000) hp hq;unfold Iu at hR;dsimp only at hR;obtain⟨⟨sx,sy⟩,hs⟩:=ey (Ic (mat t) p q);rw[hs]at GK hR K5 K7 K8 K9;dsimp only at GK hR K5 K7 K8 K9;obtain⟨rfl,rfl⟩:X=sx+2*x/\Y=sy+2*y:=by simp at hR;omega
 obtain⟨⟨a1,a2,a3,a4⟩,bi⟩:=ey (mat t);have JN:=λ(w':Aj) (h:Tn w')=>h.at' t m1;rw[bi]at GK JN;dsimp only at JN GK;have e1:okM t x y=true:=hm;have e2:okP p q=true:=Wi.2 Gu;have e3:okP (sx+2*x) (sy+2*y)=true:=Wi.2 Gu;have E1:=Ah e1;have E2:=Ah e2;have E3:=Ah e3;have EM:=Ah GK;have IT:=Ah JN;have B1:=Ah (show 0<=(t:Int)/\(t:Int)<=255 by omega);have q1:(t:Int)<8:=Gu;have H:=(((Bx.start w).new #[Aa Ac t,x,y] 30 rfl).new #[p,q] 282 (N:=w.heap.size+1) Gx).new #[Aa Ab 0,Aa Ab 0] 282 (N:=w.heap.size+2) Gx;have HT:=Ah hT;clear hR GK JN e1 e2 e3 hm hs bi hT;go_enter Tryz.func228,Tryz.ntmps228;go_upto_region 1 with fail;generalize ((w.alloc _).alloc _).alloc _=W at H⊢;generalize w.heap.size=N at H⊢;obtain⟨P,hP⟩:=ez (N+2);rw[<-hP]at H;rw[show N+1+1=P from hP.symm];clear hP;obtain⟨⟨f0,f1,f2⟩,_⟩:=He (H.b 0);go_wp2_with fail;refine(Jo t x y _ B1.out).mono ?_;rintro e w2 ⟨rfl,hb⟩;rw[E1.out,Ls];have H2:=H.call hb;clear f0 f1 f2 hb H;obtain⟨⟨g0,g1⟩,_⟩:=Hn (H2.b 1);go_wp2_with fail;refine(Ol p q _).mono ?_;rintro e w3 ⟨rfl,hb⟩;rw[E2.out,Ls];have H3:=H2.call hb;clear g0 g1 hb H2;obtain⟨⟨f0,f1,f2⟩,_⟩:=He (H3.b 0);obtain⟨⟨g0,g1⟩,_⟩:=Hn (H3.b 1);have H_:=HT.out.below H3.below;obtain⟨v0,v1,v2,v3⟩:=IT.out _ H_;go_upto_region 3 with fail
 go_region_held3 (λw'=>w'.cell? ⟨N,0,Ae⟩=Af (Aa Ac t)/\w'.cell? ⟨N+1,0,Ae⟩=Af (Aa Ab p)/\w'.cell? ⟨N+1,1,Ae⟩=Af (Aa Ab q)/\w'.cell? ⟨0,t*4,Ae⟩=Af (Aa Ab a1)/\w'.cell? ⟨0,t*4+1,Ae⟩=Af (Aa Ab a2)/\w'.cell? ⟨0,t*4+2,Ae⟩=Af (Aa Ab a3)/\w'.cell? ⟨0,t*4+3,Ae⟩=Af (Aa Ab a4))
  (first|exact⟨f0,g0,g1,v0,v1,v2,v3⟩|go_keep)
  (first|(go_at_call 125;(with_reducible refine(EM.out _).mono ?_);rintro e w4 ⟨rfl,ct⟩;have H3:=H3.call (Hk ct);have f0:=Gv (Hk ct) f0;have g0:=Gv (Hk ct) g0;have g1:=Gv (Hk ct) g1;have v0:=Gv (Hk ct) v0;have v1:=Gv (Hk ct) v1;have v2:=Gv (Hk ct) v2;have v3:=Gv (Hk ct) v3)|fail)
 clear f0 f1 f2 g0 g1 v0 v1 v2 v3 H_;obtain⟨⟨f0,f1,f2⟩,_⟩:=He (H3.b 0);have H4:=H3.new #[Aa Ab (sx+2*x),Aa Ab (sy+2*y)] 282 rfl;have k1:Ab.wrap (2*x)=2*x:=Ca _ Gu;have k2:Ab.wrap (2*y)=2*y:=Ca _ Gu;have k3:Ab.wrap (sx+2*x)=sx+2*x:=Ca _ Gu;have k4:Ab.wrap (sy+2*y)=sy+2*y:=Ca _ Gu;go_wp2_with fail;refine(Ol _ _ _).mono ?_;rintro e w5 ⟨rfl,hb⟩;rw[E3.out,Ls];have H5:=H4.call hb;clear f0 f1 f2 hb;obtain⟨⟨c0,c1⟩,d0,d1⟩:=Hn (H5.b 2);obtain⟨⟨b0,b1⟩,_⟩:=Hn (H5.b 3);go_wp2_with fail;have H6:=(H5.set 2 0 rfl (Aa Ab (sx+2*x))).set 2 1 rfl (Aa Ab (sy+2*y));exact Ai (Hj rfl rfl (H6.range 2 rfl) Tryz.underlying282 rfl Gw) rfl ⟨rfl,H6.below⟩
theorem My (a b:Int) (w:Aj):Al Do 35 #[a,b] w (Gy (Aa Ab (Ih a b)) w):=by
 obtain⟨R,hR⟩:=ey (Ih a b);rw[hR];have HR:=Ah hR;clear hR;go_enter Tryz.func35,Tryz.ntmps35;go_wp2_with (go_in)
 all_goals go_ret
 all_goals refine⟨Iw ?_,Ag _ _⟩
 all_goals rw[<-HR.out]
 all_goals first|rw[Tu Gu]|rw[jZ Gu]|rw[jY Gu Gu]
def Nr (p q r:Int):Int:=if p≠0 then p else if q≠0 then q else r
theorem uS (g cp:Nat) (a0 b0 a1 b1 a2 b2:Int) (w:Aj) (h:w.rangeAt g 0 [Aa Ab a0,Aa Ab b0,Aa Ab a1,Aa Ab b1,Aa Ab a2,Aa Ab b2]):
  Al Do 166 #[Ad (Af ⟨g,0,Ae⟩) 3 cp] w (Gy (Aa Ab (Nr (Ih a0 b0) (Ih a1 b1) (Ih a2 b2))) w):=by
 obtain⟨p,hp⟩:=ey (Ih a0 b0);obtain⟨q,hq⟩:=ey (Ih a1 b1);obtain⟨r,hr⟩:=ey (Ih a2 b2);rw[hp,hq,hr];have P:=Ah hp;have Q:=Ah hq;have R:=Ah hr;have c0:=h 0 _ rfl;have c1:=h 1 _ rfl;have c2:=h 2 _ rfl;have c3:=h 3 _ rfl;have c4:=h 4 _ rfl;have c5:=h 5 _ rfl;simp only[Nat.reduceAdd]at c0 c1 c2 c3 c4 c5;have GW:g<w.heap.size:=World.block_lt_of_cell? w ⟨g,0,Ae⟩ c0;clear hp hq hr h;go_enter Tryz.func166,Tryz.ntmps166;go_wp2
 go_loopw [8] (λi wr=>∃k:Nat,k<=3/\i= Aa Ab k/\Below w.heap.size w wr/\(1<=k->p=0)/\(2<=k->q=0)/\(k=3->r=0)) (λi _=>3-(intOf i).toNat)
 case atStart=>exact⟨0,Gu,rfl,Ag _ _,Gu,Gu,Gu⟩
 obtain⟨k,hk,rfl,hb,h1,h2,h3⟩:=hrel;have c0:=Gv hb c0;have c1:=Gv hb c1;have c2:=Gv hb c2;have c3:=Gv hb c3;have c4:=Gv hb c4;have c5:=Gv hb c5;have GW:g<wr.heap.size:=Bq GW hb.size;have hs:=hb.size;have h4:k=0∨k=1∨k=2∨k=3:=Gu;rcases h4 with rfl|rfl|rfl|rfl
 ·as_aux_lemma=>
   by_cases hz:p=0
   ·go_wp2_with fail;refine(My a0 b0 _).mono ?_;rintro e w2 ⟨rfl,aj⟩;rw[P.out];have bm:Below w.heap.size w w2:=(hb.alloc hs _).trans (aj.mono Hu);have EB:(p != 0)=false:=by simpa using hz
    go_wp2;exact⟨⟨1,Gu,rfl,bm,λ_=>hz,Gu,Gu⟩,by simp[intOf]⟩
   ·go_wp2_with fail;refine(My a0 b0 _).mono ?_;rintro e w2 ⟨rfl,aj⟩;rw[P.out];have bm:Below w.heap.size w w2:=(hb.alloc hs _).trans (aj.mono Hu);have EB:(p != 0)=true:=by simpa using hz
    go_wp2;go_ret;exact⟨Iw (by unfold Nr;rw[Hd hz]),bm⟩
 ·as_aux_lemma=>
   have lg:=h1 Gu;by_cases hz:q=0
   ·go_wp2_with fail;refine(My a1 b1 _).mono ?_;rintro e w2 ⟨rfl,aj⟩;rw[Q.out];have bm:Below w.heap.size w w2:=(hb.alloc hs _).trans (aj.mono Hu);have EB:(q != 0)=false:=by simpa using hz
    go_wp2;exact⟨⟨2,Gu,rfl,bm,λ_=>lg,λ_=>hz,Gu⟩,by simp[intOf]⟩
   ·go_wp2_with fail;refine(My a1 b1 _).mono ?_;rintro e w2 ⟨rfl,aj⟩;rw[Q.out];have bm:Below w.heap.size w w2:=(hb.alloc hs _).trans (aj.mono Hu);have EB:(q != 0)=true:=by simpa using hz
    go_wp2;go_ret;exact⟨Iw (by unfold Nr;rw[Gz (by simpa using lg),Hd hz]),bm⟩
 ·as_aux_lemma=>
   have lg:=h1 Gu;have zx:=h2 Gu;by_cases hz:r=0
   ·go_wp2_with fail;refine(My a2 b2 _).mono ?_;rintro e w2 ⟨rfl,aj⟩;rw[R.out];have bm:Below w.heap.size w w2:=(hb.alloc hs _).trans (aj.mono Hu);have EB:(r != 0)=false:=by simpa using hz
    go_wp2;exact⟨⟨3,Gu,rfl,bm,λ_=>lg,λ_=>zx,λ_=>hz⟩,by simp[intOf]⟩
   ·go_wp2_with fail;refine(My a2 b2 _).mono ?_;rintro e w2 ⟨rfl,aj⟩;rw[R.out];have bm:Below w.heap.size w w2:=(hb.alloc hs _).trans (aj.mono Hu);have EB:(r != 0)=true:=by simpa using hz
    go_wp2;go_ret;exact⟨Iw (by unfold Nr;rw[Gz (by simpa using lg),Gz (by simpa using zx)]),bm⟩
 ·as_aux_lemma=>
   have lg:=h1 Gu;have zx:=h2 Gu;have SM:=h3 rfl;go_wp2;go_ret;exact⟨Iw (by first|rfl|simp[Nr,lg,zx,SM]),hb⟩
theorem bU (c d:Cl) (w:Aj) (hc:c.q<=255) (hd:d.q<=255):Al Do 110 #[.agg #[Aa Ab c.x,Aa Ab c.y,Aa Ac c.q],.agg #[Aa Ab d.x,Aa Ab d.y,Aa Ac d.q]] w (Gy (Aa Ab (Kc c d)) w):=by
 have am:Kc c d=Nr (Ih c.y d.y) (Ih c.x d.x) (Ih c.q d.q):=rfl;rw[am];obtain⟨x,y,q⟩:=c;obtain⟨x',y',q'⟩:=d;dsimp only at hc hd⊢;have k1:Ab.wrap (q:Int)=q:=Ca _ Gu;have k2:Ab.wrap (q':Int)=q':=Ca _ Gu;have H:=((Bx.start w).new #[x,y,Aa Ac q] 90 rfl).new #[x',y',Aa Ac q'] 90 (N:=w.heap.size+1) Gx;clear am;go_enter Tryz.func110,Tryz.ntmps110;go_upto_region 1 with fail;generalize (w.alloc _).alloc _=W at H⊢;generalize w.heap.size=N at H⊢;obtain⟨⟨a0,a1,a2⟩,_⟩:=He (H.b 0);obtain⟨⟨b0,b1,b2⟩,_⟩:=He (H.b 1);go_wp2_with fail;have H3:=H.new #[y,y',x,x',q,q'] 56 rfl;refine(uS W.heap.size 3 y y' x x' q q' _ (H3.range 2 rfl)).mono ?_;rintro e w2 ⟨rfl,hb⟩;have H4:=H3.call hb;clear a0 a1 a2 b0 b1 b2;go_wp2;go_ret;exact⟨rfl,H4.below⟩
theorem uB (c:Cl) (w:Aj) (hx: -5000<=c.x/\c.x<=5000) (hy: -5000<=c.y/\c.y<=5000):Al Do 227 #[.agg #[Aa Ab c.x,Aa Ab c.y,Aa Ac c.q]] w (Gy (.agg #[Aa Ab (2*c.x+1),Aa Ab (2*c.y+1)]) w):=by
 obtain⟨x,y,q⟩:=c;dsimp only at hx hy⊢;have k1:Ab.wrap (2*x)=2*x:=Ca _ Gu;have k2:Ab.wrap (2*y)=2*y:=Ca _ Gu;have k3:Ab.wrap (2*x+1)=2*x+1:=Ca _ Gu;have k4:Ab.wrap (2*y+1)=2*y+1:=Ca _ Gu;have H:=((Bx.start w).new #[x,y,Aa Ac q] 90 rfl).new #[Aa Ab 0,Aa Ab 0] 282 (N:=w.heap.size+1) Gx;go_enter Tryz.func227,Tryz.ntmps227;go_upto_region 1 with fail;generalize (w.alloc _).alloc _=W at H⊢;generalize w.heap.size=N at H⊢;obtain⟨⟨a0,a1,a2⟩,_⟩:=He (H.b 0);obtain⟨⟨b0,b1⟩,c0,c1⟩:=Hn (H.b 1);go_wp2_with fail;have H4:=(H.set 1 0 rfl (Aa Ab (2*x+1))).set 1 1 rfl (Aa Ab (2*y+1));exact Ai (Mm rfl rfl (H4.range 1 rfl) Tryz.underlying282 rfl Gw) rfl ⟨rfl,H4.below⟩
structure Bd (w w':Aj):Prop where
 b:Below w.heap.size w w'
 d:w.drawn<=w'.drawn
theorem Bd.refl (w:Aj):Bd w w:=⟨Ag _ _,Am _⟩
theorem Bd.trans {a b c:Aj} (h:Bd a b) (k:Bd b c):Bd a c:=⟨h.b.trans (k.b.mono h.b.size),Br h.d k.d⟩
theorem Bd.alloc {a b:Aj} (h:Bd a b) (o:Obj):Bd a (b.alloc o):=⟨h.b.alloc h.b.size o,h.d⟩
theorem Bd.drew {a b:Aj} (h:Bd a b):Bd a b.drew:=⟨h.b.drew,Nat.le_succ_of_le h.d⟩
theorem Bd.grow {w w':Aj} (h:Bd w w'):∃q os,w'=Go.Sort.grow (w.drewN q) os:=by
 obtain⟨p,hp⟩:=regrown_of_below h.b;have hd:=h.d;refine⟨w'.drawn-w.drawn,p.os,?_⟩;have e:p.d=w'.drawn:=by rw[hp];rfl
 have e2:w.drewN (w'.drawn-w.drawn)=redrawn w p.d:=by
  unfold redrawn;rw[e];show({w with drawn:=w.drawn+(w'.drawn-w.drawn)}:Aj)=_
  congr 1
  omega
 rw[e2];exact hp
def Uv (v:Ak) (w:Aj) (e:Ending) (w':Aj):Prop:=e= .returned v/\Bd w w'
theorem Nf (a b:Int) (w:Aj):Al Do 35 #[a,b] w (Uv (Aa Ab (Ih a b)) w):=by
 obtain⟨R,hR⟩:=ey (Ih a b);rw[hR];have HR:=Ah hR;clear hR;go_enter Tryz.func35,Tryz.ntmps35;go_wp2_with (go_in)
 all_goals go_ret
 all_goals refine⟨Iw ?_,Bd.refl _⟩
 all_goals rw[<-HR.out]
 all_goals first|rw[Tu Gu]|rw[jZ Gu]|rw[jY Gu Gu]
theorem Ag7 (g cp:Nat) (a0 b0 a1 b1 a2 b2:Int) (w:Aj) (h:w.rangeAt g 0 [Aa Ab a0,Aa Ab b0,Aa Ab a1,Aa Ab b1,Aa Ab a2,Aa Ab b2]):
  Al Do 166 #[Ad (Af ⟨g,0,Ae⟩) 3 cp] w (Uv (Aa Ab (Nr (Ih a0 b0) (Ih a1 b1) (Ih a2 b2))) w):=by
 obtain⟨p,hp⟩:=ey (Ih a0 b0);obtain⟨q,hq⟩:=ey (Ih a1 b1);obtain⟨r,hr⟩:=ey (Ih a2 b2);rw[hp,hq,hr];have P:=Ah hp;have Q:=Ah hq;have R:=Ah hr;have c0:=h 0 _ rfl;have c1:=h 1 _ rfl;have c2:=h 2 _ rfl;have c3:=h 3 _ rfl;have c4:=h 4 _ rfl;have c5:=h 5 _ rfl;simp only[Nat.reduceAdd]at c0 c1 c2 c3 c4 c5;have GW:g<w.heap.size:=World.block_lt_of_cell? w ⟨g,0,Ae⟩ c0;clear hp hq hr h;go_enter Tryz.func166,Tryz.ntmps166;go_wp2
 go_loopw [8] (λi wr=>∃k:Nat,k<=3/\i= Aa Ab k/\Bd w wr/\(1<=k->p=0)/\(2<=k->q=0)/\(k=3->r=0)) (λi _=>3-(intOf i).toNat)
 case atStart=>exact⟨0,Gu,rfl,Bd.refl _,Gu,Gu,Gu⟩
 obtain⟨k,hk,rfl,dm,h1,h2,h3⟩:=hrel;have hb:=dm.b;have c0:=Gv hb c0;have c1:=Gv hb c1;have c2:=Gv hb c2;have c3:=Gv hb c3;have c4:=Gv hb c4;have c5:=Gv hb c5;have GW:g<wr.heap.size:=Bq GW hb.size;have hs:=hb.size;have h4:k=0∨k=1∨k=2∨k=3:=Gu;rcases h4 with rfl|rfl|rfl|rfl
 ·as_aux_lemma=>
   by_cases hz:p=0
   ·go_wp2_with fail;refine(Nf a0 b0 _).mono ?_;rintro e w2 ⟨rfl,aj⟩;rw[P.out];have bm:Bd w w2:=(dm.alloc _).trans aj;have EB:(p != 0)=false:=by simpa using hz
    go_wp2;exact⟨⟨1,Gu,rfl,bm,λ_=>hz,Gu,Gu⟩,by simp[intOf]⟩
   ·go_wp2_with fail;refine(Nf a0 b0 _).mono ?_;rintro e w2 ⟨rfl,aj⟩;rw[P.out];have bm:Bd w w2:=(dm.alloc _).trans aj;have EB:(p != 0)=true:=by simpa using hz
    go_wp2;go_ret;exact⟨Iw (by unfold Nr;rw[Hd hz]),bm⟩
 ·as_aux_lemma=>
   have lg:=h1 Gu;by_cases hz:q=0
   ·go_wp2_with fail;refine(Nf a1 b1 _).mono ?_;rintro e w2 ⟨rfl,aj⟩;rw[Q.out];have bm:Bd w w2:=(dm.alloc _).trans aj;have EB:(q != 0)=false:=by simpa using hz
    go_wp2;exact⟨⟨2,Gu,rfl,bm,λ_=>lg,λ_=>hz,Gu⟩,by simp[intOf]⟩
   ·go_wp2_with fail;refine(Nf a1 b1 _).mono ?_;rintro e w2 ⟨rfl,aj⟩;rw[Q.out];have bm:Bd w w2:=(dm.alloc _).trans aj;have EB:(q != 0)=true:=by simpa using hz
    go_wp2;go_ret;exact⟨Iw (by unfold Nr;rw[Gz (by simpa using lg),Hd hz]),bm⟩
 ·as_aux_lemma=>
   have lg:=h1 Gu;have zx:=h2 Gu;by_cases hz:r=0
   ·go_wp2_with fail;refine(Nf a2 b2 _).mono ?_;rintro e w2 ⟨rfl,aj⟩;rw[R.out];have bm:Bd w w2:=(dm.alloc _).trans aj;have EB:(r != 0)=false:=by simpa using hz
    go_wp2;exact⟨⟨3,Gu,rfl,bm,λ_=>lg,λ_=>zx,λ_=>hz⟩,by simp[intOf]⟩
   ·go_wp2_with fail;refine(Nf a2 b2 _).mono ?_;rintro e w2 ⟨rfl,aj⟩;rw[R.out];have bm:Bd w w2:=(dm.alloc _).trans aj;have EB:(r != 0)=true:=by simpa using hz
    go_wp2;go_ret;exact⟨Iw (by unfold Nr;rw[Gz (by simpa using lg),Gz (by simpa using zx)]),bm⟩
 ·as_aux_lemma=>
   have lg:=h1 Gu;have zx:=h2 Gu;have SM:=h3 rfl;go_wp2;go_ret;exact⟨Iw (by first|rfl|simp[Nr,lg,zx,SM]),dm⟩
theorem Tv (c d:Cl) (w:Aj) (hc:c.q<=255) (hd:d.q<=255):Al Do 110 #[.agg #[Aa Ab c.x,Aa Ab c.y,Aa Ac c.q],.agg #[Aa Ab d.x,Aa Ab d.y,Aa Ac d.q]] w (Uv (Aa Ab (Kc c d)) w):=by
 have am:Kc c d=Nr (Ih c.y d.y) (Ih c.x d.x) (Ih c.q d.q):=rfl;rw[am];obtain⟨x,y,q⟩:=c;obtain⟨x',y',q'⟩:=d;dsimp only at hc hd⊢;have k1:Ab.wrap (q:Int)=q:=Ca _ Gu;have k2:Ab.wrap (q':Int)=q':=Ca _ Gu;have dm:Bd w ((w.alloc (.cells #[x,y,Aa Ac q] 90)).alloc (.cells #[x',y',Aa Ac q'] 90)):=((Bd.refl w).alloc _).alloc _;have H:=((Bx.start w).new #[x,y,Aa Ac q] 90 rfl).new #[x',y',Aa Ac q'] 90 (N:=w.heap.size+1) Gx;clear am;go_enter Tryz.func110,Tryz.ntmps110;go_upto_region 1 with fail;generalize (w.alloc _).alloc _=W at H dm⊢;generalize w.heap.size=N at H⊢;obtain⟨⟨a0,a1,a2⟩,_⟩:=He (H.b 0);obtain⟨⟨b0,b1,b2⟩,_⟩:=He (H.b 1);go_wp2_with fail;have H3:=H.new #[y,y',x,x',q,q'] 56 rfl;refine(Ag7 W.heap.size 3 y y' x x' q q' _ (H3.range 2 rfl)).mono ?_;rintro e w2 ⟨rfl,hb⟩;have hbd4:=(dm.alloc (.cells #[y,y',x,x',q,q'] 56)).trans hb;clear a0 a1 a2 b0 b1 b2;go_wp2;go_ret;exact⟨rfl,hbd4⟩
theorem Ie {t e:Cj} (a:Option Ci) (l c:Nat) (h:Tryz.prog.underlying t=Af (.slice e)) (w:Aj):(binOp .eql t (Ad a l c) (Ad Ae 0 0)).run Do w= .ok (.bool a.isNone) w:=by
 simp only[binOp];simp[run_equal_slice_nil w t e a l c h]
def AOk (A:Option Ci) (n c:Nat):Prop:=(A=Ae/\n=0/\c=0)∨∃b o,A=Af ⟨b,o,Ae⟩
theorem Mi {w:Aj} {base:Nat} {e:Cj} {sz n:Nat} {v:Ak} {xs:List Ak} (h:w.ownsRow base e sz v n xs):∃A c,v= Ad A n c/\AOk A n c/\n<=c/\c<=maxLen:=by
 rcases h.2 with⟨rfl,h0⟩|⟨g,cap,cur,r1,_,_,r2,r3,_⟩
 ·exact⟨Ae,0,by rw[h0],.inl ⟨rfl,h0,rfl⟩,Gu,by simp[maxLen]⟩
 ·exact⟨_,cap,r1,.inr ⟨g,0,rfl⟩,r2,r3⟩
theorem Ns:(Tryz.prog.info? 3).map (λi=>(i.zero,i.size,i.bytes))=Af (Af (Aa Ab 0),1,8):=Gw
theorem Yp (A:Option Ci) (n c:Nat) (w:Aj) (h:n<=c) (CV:c<=maxLen):
  Al Do 49 #[Ad A n c] w (Gy (Ad A n n) w):=by
 unfold maxLen at CV;go_enter Tryz.func49,Tryz.ntmps49
 go_wp2
 go_ret;exact⟨rfl,Ag _ _⟩
theorem Uz (A:Option Ci) (n c:Nat) (xs:List Ak) (w:Aj) (hA:AOk A n c) (h:Rd w A 1 n xs) (h1:∀u∈xs,u.oneCell'=true) (hn:n<=1000000):
  Al Do 79 #[Ad A n c] w (Nv 3 1 n xs w):=by
 rcases hA with⟨rfl,rfl,rfl⟩|⟨b,o,rfl⟩
 ·have hx:xs=[]:=by have:=h.1;simpa using this
  subst hx;clear hn h h1;have heq:=Ie Ae 0 0 Dk;go_enter Tryz.func79,Tryz.ntmps79;go_wp2;go_ret;exact⟨_,rfl,⟨rfl,.inl ⟨rfl,rfl⟩⟩,Ag _ _⟩
 ·obtain⟨i0,hi,hz,hs,hb⟩:=info_parts Ns;have aa:(w.alloc (.cells #[] 3)).ownsRow w.heap.size 3 1 (Ad (Af ⟨w.heap.size,0,Ae⟩) 0 0) 0 []:=Py (Am _) (Bz w _) (Am _) (by simp[maxLen]) rfl;obtain⟨v',w',hr,h2,h3⟩:=Ht (P:=Do) (w.alloc (.cells #[] 3)) w.heap.size 38 38 3 i0 _ 1 8 Dk hi hz hs hb rfl Ha _ 0 [] aa (Af ⟨b,o,Ae⟩) n c xs h1 (h.alloc _) (λh=>by cases h) Gu Ha Gx;rw[Bt,Et]at h2;have de:Below w.heap.size w w':=((Ag _ _).alloc (Am _) _).grown h3 Gx (λk hk=>by simp[Dv]at hk;omega);clear aa h3 hi hz hs hb h1 h hn;have heq:=Ie (Af ⟨b,o,Ae⟩) n c Dk;go_enter Tryz.func79,Tryz.ntmps79;go_wp2_with (at_builtin;refine As _ rfl _ _ _ _ rfl _ _ rfl rfl _ _ hr ?_);go_ret;exact⟨v',rfl,h2,de⟩
theorem Ar8:(Tryz.prog.info? 192).map (λi=>(i.zero,i.size,i.bytes))=Af (Af (.agg #[Aa Ab 0,Aa Ac 0,Aa Ac 0]),3,16):=Gw
theorem Bs9 (A:Option Ci) (n c:Nat) (w:Aj) (h:n<=c) (CV:c<=maxLen):
  Al Do 135 #[Ad A n c] w (Gy (Ad A n n) w):=by
 unfold maxLen at CV;go_enter Tryz.func135,Tryz.ntmps135
 go_wp2
 go_ret;exact⟨rfl,Ag _ _⟩
theorem xK (A:Option Ci) (n c:Nat) (xs:List Ak) (w:Aj) (hA:AOk A n c) (h:Rd w A 3 n xs) (h1:∀u∈xs,u.oneCell'=true) (hn:n<=1000000):
  Al Do 130 #[Ad A n c] w (Nv 192 3 n xs w):=by
 rcases hA with⟨rfl,rfl,rfl⟩|⟨b,o,rfl⟩
 ·have hx:xs=[]:=by have:=h.1;simpa using this
  subst hx;clear hn h h1;have heq:=Ie Ae 0 0 Tryz.underlying26;go_enter Tryz.func130,Tryz.ntmps130;go_wp2;go_ret;exact⟨_,rfl,⟨rfl,.inl ⟨rfl,rfl⟩⟩,Ag _ _⟩
 ·obtain⟨i0,hi,hz,hs,hb⟩:=info_parts Ar8;have aa:(w.alloc (.cells #[] 192)).ownsRow w.heap.size 192 3 (Ad (Af ⟨w.heap.size,0,Ae⟩) 0 0) 0 []:=Py (Am _) (Bz w _) (Am _) (by simp[maxLen]) rfl;obtain⟨v',w',hr,h2,h3⟩:=Ht (P:=Do) (w.alloc (.cells #[] 192)) w.heap.size 26 26 192 i0 _ 3 16 Tryz.underlying26 hi hz hs hb rfl Ha _ 0 [] aa (Af ⟨b,o,Ae⟩) n c xs h1 (h.alloc _) (λh=>by cases h) Gu Ha Gx;rw[Bt,Et]at h2;have de:Below w.heap.size w w':=((Ag _ _).alloc (Am _) _).grown h3 Gx (λk hk=>by simp[Dv]at hk;omega);clear aa h3 hi hz hs hb h1 h hn;have heq:=Ie (Af ⟨b,o,Ae⟩) n c Tryz.underlying26;go_enter Tryz.func130,Tryz.ntmps130;go_wp2_with (at_builtin;refine As _ rfl _ _ _ _ rfl _ _ rfl rfl _ _ hr ?_);go_ret;exact⟨v',rfl,h2,de⟩
theorem Bh4:(Tryz.prog.info? 92).map (λi=>(i.zero,i.size,i.bytes))=Af (Af (.agg #[Aa Ab 0,Aa Ab 0,Aa Ac 0,Ad Ae 0 0]),4,48):=Gw
theorem jX (A:Option Ci) (n c:Nat) (w:Aj) (h:n<=c) (CV:c<=maxLen):
  Al Do 111 #[Ad A n c] w (Gy (Ad A n n) w):=by
 unfold maxLen at CV;go_enter Tryz.func111,Tryz.ntmps111
 go_wp2
 go_ret;exact⟨rfl,Ag _ _⟩
theorem Ap3 (A:Option Ci) (n c:Nat) (xs:List Ak) (w:Aj) (hA:AOk A n c) (h:Rd w A 4 n xs) (h1:∀u∈xs,u.oneCell'=true) (hn:n<=1000000):
  Al Do 112 #[Ad A n c] w (Nv 92 4 n xs w):=by
 rcases hA with⟨rfl,rfl,rfl⟩|⟨b,o,rfl⟩
 ·have hx:xs=[]:=by have:=h.1;simpa using this
  subst hx;clear hn h h1;have heq:=Ie Ae 0 0 Tryz.underlying31;go_enter Tryz.func112,Tryz.ntmps112;go_wp2;go_ret;exact⟨_,rfl,⟨rfl,.inl ⟨rfl,rfl⟩⟩,Ag _ _⟩
 ·obtain⟨i0,hi,hz,hs,hb⟩:=info_parts Bh4;have aa:(w.alloc (.cells #[] 92)).ownsRow w.heap.size 92 4 (Ad (Af ⟨w.heap.size,0,Ae⟩) 0 0) 0 []:=Py (Am _) (Bz w _) (Am _) (by simp[maxLen]) rfl;obtain⟨v',w',hr,h2,h3⟩:=Ht (P:=Do) (w.alloc (.cells #[] 92)) w.heap.size 31 31 92 i0 _ 4 48 Tryz.underlying31 hi hz hs hb rfl Ha _ 0 [] aa (Af ⟨b,o,Ae⟩) n c xs h1 (h.alloc _) (λh=>by cases h) Gu Ha Gx;rw[Bt,Et]at h2;have de:Below w.heap.size w w':=((Ag _ _).alloc (Am _) _).grown h3 Gx (λk hk=>by simp[Dv]at hk;omega);clear aa h3 hi hz hs hb h1 h hn;have heq:=Ie (Af ⟨b,o,Ae⟩) n c Tryz.underlying31;go_enter Tryz.func112,Tryz.ntmps112;go_wp2_with (at_builtin;refine As _ rfl _ _ _ _ rfl _ _ rfl rfl _ _ hr ?_);go_ret;exact⟨v',rfl,h2,de⟩
theorem oM:(Tryz.prog.info? 377).map (λi=>(i.zero,i.size,i.bytes))=Af (Af (.agg #[Aa Ab 0,Aa Ab 0]),2,16):=Gw
theorem Ap1 (A:Option Ci) (n c:Nat) (w:Aj) (h:n<=c) (CV:c<=maxLen):
  Al Do 253 #[Ad A n c] w (Gy (Ad A n n) w):=by
 unfold maxLen at CV;go_enter Tryz.func253,Tryz.ntmps253
 go_wp2
 go_ret;exact⟨rfl,Ag _ _⟩
theorem Ab1 (A:Option Ci) (n c:Nat) (xs:List Ak) (w:Aj) (hA:AOk A n c) (h:Rd w A 2 n xs) (h1:∀u∈xs,u.oneCell'=true) (hn:n<=1000000):
  Al Do 254 #[Ad A n c] w (Nv 377 2 n xs w):=by
 rcases hA with⟨rfl,rfl,rfl⟩|⟨b,o,rfl⟩
 ·have hx:xs=[]:=by have:=h.1;simpa using this
  subst hx;clear hn h h1;have heq:=Ie Ae 0 0 Tryz.underlying260;go_enter Tryz.func254,Tryz.ntmps254;go_wp2;go_ret;exact⟨_,rfl,⟨rfl,.inl ⟨rfl,rfl⟩⟩,Ag _ _⟩
 ·obtain⟨i0,hi,hz,hs,hb⟩:=info_parts oM;have aa:(w.alloc (.cells #[] 377)).ownsRow w.heap.size 377 2 (Ad (Af ⟨w.heap.size,0,Ae⟩) 0 0) 0 []:=Py (Am _) (Bz w _) (Am _) (by simp[maxLen]) rfl;obtain⟨v',w',hr,h2,h3⟩:=Ht (P:=Do) (w.alloc (.cells #[] 377)) w.heap.size 260 260 377 i0 _ 2 16 Tryz.underlying260 hi hz hs hb rfl Ha _ 0 [] aa (Af ⟨b,o,Ae⟩) n c xs h1 (h.alloc _) (λh=>by cases h) Gu Ha Gx;rw[Bt,Et]at h2;have de:Below w.heap.size w w':=((Ag _ _).alloc (Am _) _).grown h3 Gx (λk hk=>by simp[Dv]at hk;omega);clear aa h3 hi hz hs hb h1 h hn;have heq:=Ie (Af ⟨b,o,Ae⟩) n c Tryz.underlying260;go_enter Tryz.func254,Tryz.ntmps254;go_wp2_with (at_builtin;refine As _ rfl _ _ _ _ rfl _ _ rfl rfl _ _ hr ?_);go_ret;exact⟨v',rfl,h2,de⟩
theorem oL:(Tryz.prog.info? 266).map (λi=>(i.zero,i.size,i.bytes))=Af (Af (.agg #[Aa Ac 0,Aa Ab 0,Aa Ab 0]),3,24):=Gw
theorem Ap0 (A:Option Ci) (n c:Nat) (w:Aj) (h:n<=c) (CV:c<=maxLen):
  Al Do 255 #[Ad A n c] w (Gy (Ad A n n) w):=by
 unfold maxLen at CV;go_enter Tryz.func255,Tryz.ntmps255
 go_wp2
 go_ret;exact⟨rfl,Ag _ _⟩
theorem Ab0 (A:Option Ci) (n c:Nat) (xs:List Ak) (w:Aj) (hA:AOk A n c) (h:Rd w A 3 n xs) (h1:∀u∈xs,u.oneCell'=true) (hn:n<=1000000):
  Al Do 256 #[Ad A n c] w (Nv 266 3 n xs w):=by
 rcases hA with⟨rfl,rfl,rfl⟩|⟨b,o,rfl⟩
 ·have hx:xs=[]:=by have:=h.1;simpa using this
  subst hx;clear hn h h1;have heq:=Ie Ae 0 0 Tryz.underlying261;go_enter Tryz.func256,Tryz.ntmps256;go_wp2;go_ret;exact⟨_,rfl,⟨rfl,.inl ⟨rfl,rfl⟩⟩,Ag _ _⟩
 ·obtain⟨i0,hi,hz,hs,hb⟩:=info_parts oL;have aa:(w.alloc (.cells #[] 266)).ownsRow w.heap.size 266 3 (Ad (Af ⟨w.heap.size,0,Ae⟩) 0 0) 0 []:=Py (Am _) (Bz w _) (Am _) (by simp[maxLen]) rfl;obtain⟨v',w',hr,h2,h3⟩:=Ht (P:=Do) (w.alloc (.cells #[] 266)) w.heap.size 261 261 266 i0 _ 3 24 Tryz.underlying261 hi hz hs hb rfl Ha _ 0 [] aa (Af ⟨b,o,Ae⟩) n c xs h1 (h.alloc _) (λh=>by cases h) Gu Ha Gx;rw[Bt,Et]at h2;have de:Below w.heap.size w w':=((Ag _ _).alloc (Am _) _).grown h3 Gx (λk hk=>by simp[Dv]at hk;omega);clear aa h3 hi hz hs hb h1 h hn;have heq:=Ie (Af ⟨b,o,Ae⟩) n c Tryz.underlying261;go_enter Tryz.func256,Tryz.ntmps256;go_wp2_with (at_builtin;refine As _ rfl _ _ _ _ rfl _ _ rfl rfl _ _ hr ?_);go_ret;exact⟨v',rfl,h2,de⟩
def If (l:List Nat):List Ak:=l.map λ(i:Nat)=>Value.int .i64 (i:Int)
theorem Lt (l:List Nat):(If l).length=l.length:=by simp[If]
theorem Yy (l:List Nat):∀u∈If l,u.oneCell'=true:=by
 intro u hu;obtain⟨i,_,rfl⟩:=List.mem_map.1 hu;rfl
theorem Rp {w:Aj} {A:Option Ci} {l:List Nat} {n:Nat} (h:Rd w A 1 n (If l)) (i:Nat) (hi:i<l.length):
  ∃b o,A=Af ⟨b,o,Ae⟩/\b<w.heap.size/\w.cell? ⟨b,o+i,Ae⟩=Af (Aa Ab (l[i]:Int)):=by
 have hl:=h.1;rw[Lt]at hl;obtain⟨b,o,e,hb,hc⟩:=h.2 Gu;exact⟨b,o,e,hb,hc i _ (by simp[If,hi])⟩
def Jg (l:List Nat) (v:Nat):Int:=match l.findIdx? (λx=>decide (x=v))with
 |some i=>(i:Int)
 |none=> -1
theorem lO {l:List Nat} {v i:Nat} (hi:i<l.length) (h:l[i]=v) (hb:∀j (hj:j<l.length),j<i->l[j]≠v):Jg l v=i:=by
 unfold Jg
 have:l.findIdx? (λx=>decide (x=v))=Af i:=by
  rw[List.findIdx?_eq_some_iff_getElem];exact⟨hi,by simp[h],λj hj=>by simp[hb j Gu hj]⟩
 rw[this]
theorem Ai2 {l:List Nat} {v:Nat} (hb:∀j (hj:j<l.length),l[j]≠v):Jg l v= -1:=by
 unfold Jg
 have:l.findIdx? (λx=>decide (x=v))=Ae:=by
  rw[List.findIdx?_eq_none_iff];intro x hx;obtain⟨j,hj,rfl⟩:=List.mem_iff_getElem.1 hx;simp[hb j hj]
 rw[this]
theorem iG (A:Option Ci) (l:List Nat) (n c v:Nat) (w:Aj) (hn:n=l.length) (h:Rd w A 1 n (If l)) (hl:n<=1000000):
  Al Do 76 #[Ad A n c,v] w (Gy (Aa Ab (Jg l v)) w):=by
 have dr:=Ah h;have HN:=Ah hn;clear h hn;go_enter Tryz.func76,Tryz.ntmps76;go_wp2
 go_loopw [5,8] (λ_ i wr=>∃k:Nat,k<=n/\i= Aa Ab k/\Below w.heap.size w wr/\Hid (∀j (hj:j<l.length),j<k->l[j]≠v)) (λ_ i _=>n-(intOf i).toNat)
 case atStart=>exact⟨0,Gu,rfl,Ag _ _,Ah λj _ hj=>absurd hj Gu⟩
 obtain⟨k,hk,rfl,hb,HK⟩:=hrel;by_cases ad:k<n
 ·have bc:k<l.length:=oHx HN.out;obtain⟨bb,o,rfl,cj,c0⟩:=Rp (dr.out.below hb) k bc;have q1:(k:Int)<(n:Int):=Gu;by_cases he:l[k]=v
  ·have HF:=Ah (lO bc he λj hj h=>HK.out j hj h);rw[he]at c0;clear he;go_wp2;go_ret;exact⟨by rw[HF.out];rfl,hb⟩
  ·obtain⟨r,hr⟩:=ey (l[k])
   have jf:=Ah (λj (hj:j<l.length) (h:j<k+1)=>show l[j]≠v by
    by_cases kj:j=k
    ·subst kj;exact he
    ·exact HK.out j hj Gu)
   rw[hr]at c0 he;have hne:((v:Int)==(r:Int))=false:=Hu;clear hr;go_wp2;exact⟨⟨k+1,Gu,by go_num,hb,jf⟩,by simp[intOf];omega⟩
 ·have q1:¬(k:Int)<(n:Int):=Gu;have HF:=Ah (Ai2 (l:=l) (v:=v) λj hj=>HK.out j hj (oHx HN.out));go_wp2;go_ret;exact⟨by rw[HF.out];rfl,hb⟩
def Jj (w:Aj) (base:Nat) (e:Cj) (sz:Nat) (A:Option Ci) (n:Nat) (xs:List Ak):Prop:=
 xs.length=n*sz/\((A=Ae/\n=0)∨∃g cur,A=Af ⟨g,0,Ae⟩/\base<=g/\w.heap[g]? =Af (Cn cur e (0,0))/\n*sz<=cur.size/\cur.toList.take (n*sz)=xs)
theorem Jj.of_own {w:Aj} {base:Nat} {e:Cj} {sz n c:Nat} {A:Option Ci} {xs:List Ak} (h:w.ownsRow base e sz (Ad A n c) n xs):Jj w base e sz A n xs:=by
 refine⟨h.1,?_⟩;rcases h.2 with⟨h0,h1⟩|⟨g,cap,cur,hv,hb,hg,hn,_,hs,ht⟩
 ·have hA:A=Ae:=by injection h0
  exact .inl ⟨hA,h1⟩
 ·have hA:A=Af ⟨g,0,Ae⟩:=by injection hv
  refine .inr ⟨g,cur,hA,hb,hg,?_,ht⟩;rw[hs];exact Nat.mul_le_mul_right _ hn
theorem Jj.below {w w':Aj} {base:Nat} {e:Cj} {sz n:Nat} {A:Option Ci} {xs:List Ak} (h:Jj w base e sz A n xs) (hb:Below w.heap.size w w'):Jj w' base e sz A n xs:=by
 refine⟨h.1,?_⟩;rcases h.2 with h0|⟨g,cur,r1,r2,r3,r4⟩
 ·exact .inl h0
 ·exact .inr ⟨g,cur,r1,r2,kept hb r3 (Au.1 r3).1,r4⟩
theorem Jj.rd {w:Aj} {base:Nat} {e:Cj} {sz n:Nat} {A:Option Ci} {xs:List Ak} (h:Jj w base e sz A n xs):Rd w A sz n xs:=by
 refine⟨h.1,λhn=>?_⟩;rcases h.2 with⟨_,h0⟩|⟨g,cur,hA,hb,hg,hs,ht⟩
 ·omega
 ·refine⟨g,0,hA,(Au.1 hg).1,λj u hu=>?_⟩;rw[Bt,By w g j cur e (0,0) hg];rw[<-ht,List.getElem?_take]at hu
  split at hu
  ·simpa using hu
  ·cases hu
theorem Jj.setCell {w:Aj} {base:Nat} {e:Cj} {sz n:Nat} {A:Option Ci} {xs:List Ak} (h:Jj w base e sz A n xs) {b j:Nat} (v:Ak) (hb:b<base):Jj (w.setCell ⟨b,j,Ae⟩ v) base e sz A n xs:=by
 refine⟨h.1,?_⟩;rcases h.2 with h0|⟨g,cur,r1,r2,r3,r4⟩
 ·exact .inl h0
 ·exact .inr ⟨g,cur,r1,r2,(Dp w ⟨b,j,Ae⟩ v g (by show g≠b;omega)).trans r3,r4⟩
theorem Jj.base {w:Aj} {base UM:Nat} {e:Cj} {sz n:Nat} {A:Option Ci} {xs:List Ak} (h:Jj w base e sz A n xs) (hb:UM<=base):Jj w UM e sz A n xs:=by
 refine⟨h.1,?_⟩;rcases h.2 with h0|⟨g,cur,r1,r2,r3⟩
 ·exact .inl h0
 ·exact .inr ⟨g,cur,r1,Gu,r3⟩
theorem AOk.clip {A:Option Ci} {n c:Nat} (h:AOk A n c):AOk A n n:=by
 rcases h with⟨h1,h2,_⟩|h
 ·exact .inl ⟨h1,h2,h2⟩
 ·exact .inr h
def An1 (c:Cl) (l:List Nat) (w:Aj) (en:Ending) (w':Aj):Prop:=
 ∃A,en= .returned (.agg #[Aa Ab c.x,Aa Ab c.y,Aa Ac c.q,Ad A l.length l.length])/\AOk A l.length l.length/\Jj w' w.heap.size 3 1 A l.length (If l)/\Below w.heap.size w w'
theorem Re (c:Cl) (A:Option Ci) (l:List Nat) (n cc:Nat) (w:Aj) (hn:n=l.length) (hA:AOk A n cc) (h:Rd w A 1 n (If l)) (hl:n<=1000000):
  Al Do 107 #[.agg #[Aa Ab c.x,Aa Ab c.y,Aa Ac c.q,Ad A n cc]] w (An1 c l w):=by
 obtain⟨x,y,q⟩:=c;have FSz:=Ah λ(w':Aj) (hb:Below w.heap.size w w')=>Uz A n cc (If l) w' hA (h.below hb) (Yy l) hl;have HN:=Ah hn;unfold An1;dsimp only;rw[<-hn];have H:=((Bx.start w).new #[x,y,Aa Ac q,Ad A n cc] 92 rfl).new #[Aa Ab 0,Aa Ab 0,Aa Ac 0,Ad Ae 0 0] 92 (N:=w.heap.size+1) Gx;clear hn hA h hl;go_enter Tryz.func107,Tryz.ntmps107;go_upto_region 1 with fail;generalize (w.alloc _).alloc _=W at H⊢;obtain⟨N,hN⟩:=ez w.heap.size;rw[<-hN]at H⊢;have db:=Ah hN;clear hN;have DA:N+1<W.heap.size:=H.lt 1 rfl;obtain⟨⟨a0,a1,a2,a3⟩,_⟩:=Jm (H.b 0)
 go_region_held3 (λw'=>w'.cell? ⟨N,0,Ae⟩=Af (Aa Ab x)/\w'.cell? ⟨N,1,Ae⟩=Af (Aa Ab y)/\w'.cell? ⟨N,2,Ae⟩=Af (Aa Ac q)/\w'.cell? ⟨N,3,Ae⟩=Af (Ad A n cc))
  (first|exact⟨a0,a1,a2,a3⟩|go_keep)
  (first
   |(go_at_call 79;(with_reducible refine(FSz.out _ H.below.drew).mono ?_);rintro e w3 ⟨v,rfl,aa,bm⟩;obtain⟨A',c',rfl,dq,xy,ia⟩:=Mi aa;have H:=H.call (Hk bm);have a0:=Gv (Hk bm) a0;have a1:=Gv (Hk bm) a1;have a2:=Gv (Hk bm) a2;have a3:=Gv (Hk bm) a3)
   |(go_at_call 49;(with_reducible refine(Yp A' n c' _ xy ia).mono ?_);rintro e w4 ⟨rfl,ct⟩;have H:=H.call ct;have ag:=(Jj.of_own aa).below ct;have a0:=Gv ct a0;have a1:=Gv ct a1;have a2:=Gv ct a2;have a3:=Gv ct a3;obtain⟨⟨y0,y1,y2,y3⟩,z0,z1,z2,z3⟩:=Jm (H.b 1))
   |fail)
 have ad:N+1<W.drew.heap.size:=DA;have ik:=(((ag.setCell (j:=0) (Aa Ab x) ad).setCell (j:=1) (Aa Ab y) ad).setCell (j:=2) (Aa Ac q) ad).setCell (j:=3) (Ad A' n n) ad;have H5:=(((H.set 1 0 rfl (Aa Ab x)).set 1 1 rfl (Aa Ab y)).set 1 2 rfl (Aa Ac q)).set 1 3 rfl (Ad A' n n);have kq:w.heap.size<=W.drew.heap.size:=oHx db.out;go_wp2_with fail;exact Ai (Mm rfl rfl (H5.range 1 rfl) Tryz.underlying92 rfl Gw) rfl ⟨A',rfl,dq.clip,ik.base kq,H5.below⟩
def Jb (x:Stk×(Option Ci×Nat)):List Ak:=[Aa Ab x.1.c.x,Aa Ab x.1.c.y,Aa Ac x.1.c.q,Ad x.2.1 x.1.ls.length x.2.2]
theorem Le (x:Stk×(Option Ci×Nat)):(Jb x).length=4:=rfl
def Hz (w:Aj) (A:Option Ci) (l:List Stk):Prop:=
 ∃hs:List (Option Ci×Nat),hs.length=l.length/\Rd w A 4 l.length ((l.zip hs).flatMap Jb)/\
  ∀(i:Nat) (h:i<l.length) (h':i<hs.length),AOk hs[i].1 l[i].ls.length hs[i].2/\l[i].ls.length<=hs[i].2/\hs[i].2<=maxLen/\Rd w hs[i].1 1 l[i].ls.length (If l[i].ls)
theorem Hz.below {w w':Aj} {A:Option Ci} {l:List Stk} (h:Hz w A l) (hb:Below w.heap.size w w'):Hz w' A l:=by
 obtain⟨hs,h1,h2,h3⟩:=h;exact⟨hs,h1,h2.below hb,λi hi se=>⟨(h3 i hi se).1,(h3 i hi se).2.1,(h3 i hi se).2.2.1,(h3 i hi se).2.2.2.below hb⟩⟩
theorem Hz.get {w:Aj} {A:Option Ci} {l:List Stk} (h:Hz w A l) (i:Nat) (hi:i<l.length):
  ∃b o A' c',A=Af ⟨b,o,Ae⟩/\b<w.heap.size/\(w.cell? ⟨b,o+i*4,Ae⟩=Af (Aa Ab l[i].c.x)/\w.cell? ⟨b,o+i*4+1,Ae⟩=Af (Aa Ab l[i].c.y)/\w.cell? ⟨b,o+i*4+2,Ae⟩=Af (Aa Ac l[i].c.q)/\w.cell? ⟨b,o+i*4+3,Ae⟩=Af (Ad A' l[i].ls.length c'))/\
   AOk A' l[i].ls.length c'/\l[i].ls.length<=c'/\c'<=maxLen/\Rd w A' 1 l[i].ls.length (If l[i].ls):=by
 obtain⟨hs,h1,h2,h3⟩:=h;have se:i<hs.length:=Gu;obtain⟨b,o,e,hb,hc⟩:=h2.2 Gu;have hz:i<(l.zip hs).length:=Hu
 have bi:∀f,f<4->((l.zip hs).flatMap Jb)[i*4+f]? =(Jb (l[i],hs[i]))[f]? :=λf hf=>by
  rw[Iv Jb 4 Le _ i f hz hf,List.getElem_zip]
 obtain⟨g1,g2,g3,g4⟩:=h3 i hi se;refine⟨b,o,hs[i].1,hs[i].2,e,hb,⟨?_,?_,?_,?_⟩,g1,g2,g3,g4⟩
 ·exact hc (i*4+0) _ ((bi 0 Gu).trans rfl)
 ·exact hc (i*4+1) _ ((bi 1 Gu).trans rfl)
 ·exact hc (i*4+2) _ ((bi 2 Gu).trans rfl)
 ·exact hc (i*4+3) _ ((bi 3 Gu).trans rfl)
def Qk (k c s:Int):Bool:=okL k c&&decide (s<=1)
theorem gI (k c s:Int) (v:Bool) (w:Aj):Al Do 65 #[.agg #[Aa Ac k,c,Aa Ac s,.bool v]] w (Gy (Aa Ab (ec (Qk k c s) 1)) w):=by
 have H:=(Bx.start w).new #[Aa Ac k,c,Aa Ac s,.bool v] 50 rfl;obtain⟨R,hR⟩:=ey (Qk k c s);rw[hR];have HR:=Ah hR;clear hR;go_enter Tryz.func65,Tryz.ntmps65;go_upto_region 1 with fail;generalize w.alloc _=W at H⊢;generalize w.heap.size=N at H⊢;obtain⟨⟨a0,a1,a2,a3⟩,_⟩:=Jm (H.b 0);go_wp2_with fail;refine(Jn k c _).mono ?_;rintro e w2 ⟨rfl,hb⟩;have H2:=H.call hb;clear a0 a1 a2 a3 hb H;obtain⟨⟨a0,a1,a2,a3⟩,_⟩:=Jm (H2.b 0)
 cases hL:okL k c
 ·have HF:Hid (R=false):=Ah (by rw[<-HR.out];unfold Qk;rw[hL];rfl);rw[Qq];clear hL;go_wp2;go_ret;exact⟨by rw[HF.out];rfl,H2.below⟩
 ·have HF:Hid (R=decide (s<=1)):=Ah (by rw[<-HR.out];unfold Qk;rw[hL];rfl);rw[Ls];clear hL;by_cases h1:s<=1
  ·have h2:¬1<s:=Gu;go_wp2;go_ret;exact⟨by rw[HF.out,Lb h1];rfl,H2.below⟩
  ·have h2:1<s:=Gu;go_wp2;go_ret;exact⟨by rw[HF.out,Ly Gu];rfl,H2.below⟩
end Go.Proofs.YtlgkpdfieaadaaaGreatDoor
