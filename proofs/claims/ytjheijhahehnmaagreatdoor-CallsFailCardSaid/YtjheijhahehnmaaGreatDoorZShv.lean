/- THE WALKING LAYER, shorter forms: one computation tells what a step reads. No statement of the seat is proved here. -/
import Derived.Test.YtjheijhahehnmaaGreatDoorZHe
import Derived.WalkSpells
import Derived.Scope
import Derived.Laws.BitsLemmas
namespace Go.Proofs.YtjheijhahehnmaaGreatDoor
set_option linter.unusedSimpArgs false
set_option linter.unusedVariables false
set_option linter.unusedSectionVars false
set_option maxRecDepth 8000
open Go.RowKit
def CM(M:Mem)(b off:Nat)(v:Value):Prop:=∃c e fz,M b=some (.cells c e fz)/\c[off]? =some v
variable{M:Mem}{b off:Nat}
theorem CM.cj{v:Value}(h:CM M b off v)(L:Lc):CJ M L b off v:=by
 obtain⟨c,e,fz,d,a⟩:=h;exact⟨c,e,fz,.inl d,a⟩
theorem CM.mono{M':Mem}{v:Value}(h:CM M b off v)(a:MLe M M'):CM M' b off v:=by
 obtain⟨c,e,fz,f,d⟩:=h;exact⟨c,e,fz,a _ _ f,d⟩
def SM(M:Mem)(a:Option Addr)(cs:List Value):Prop:=cs=[]\/∃b off,a=some ⟨b,off,none⟩/\∀i u,cs[i]? =some u->CM M b (off+i) u
variable{a:Option Addr}{cs:List Value}
theorem SM.mono{M':Mem}(h:SM M a cs)(d:MLe M M'):SM M' a cs:=by
 rcases h with h|⟨b,off,f,e⟩
 ·exact .inl h
 exact .inr ⟨b,off,f,λi u c=>(e i u c).mono d⟩
theorem SM.nil:SM M a []:=.inl rfl
theorem SM.sj(h:SM M a cs)(L:Lc):SJ M L a cs:=by
 rcases h with h|⟨b,off,e,d⟩
 ·exact .inl h
 exact .inr ⟨b,off,e,λi u c=>(d i u c).cj L⟩
theorem SM.open(h:SM M a cs)(c:cs≠[]):∃b off,a=some ⟨b,off,none⟩/\∀i u,cs[i]? =some u->CM M b (off+i) u:=
 h.resolve_left c
variable{l:Nat}
theorem SM.part(h:SM M a cs){m s:Nat}(c:l<m)(k:Nat):SM M (HE a l m s) ((cs.drop (l*s)).take k):=by
 rcases h with rfl|⟨b,off,rfl,e⟩
 ·left;simp
 right;refine⟨b,off+l*s,AH c,λi u d=>?_⟩;grind
class Rm(g:Nat)(ob:outParam Obj)(L:Lc)(L2:outParam Lc):Prop where
 perm:L.Perm ((g,ob)::L2)
instance(priority:=high) Rm.head{g:Nat}{ob:Obj}{L:Lc}:Rm g ob ((g,ob)::L) L:=⟨List.Perm.refl _⟩
instance Rm.tail{g:Nat}{ob:Obj}{p:Nat×Obj}{L L2:Lc}[h:Rm g ob L L2]:Rm g ob (p::L) (p::L2):=⟨(List.Perm.cons p h.perm).trans (List.Perm.swap _ _ _)⟩
instance Rm.right{g:Nat}{ob:Obj}{R L L2:Lc}[h:Rm g ob L L2]:Rm g ob (R++L) (R++L2):=⟨(List.Perm.append_left R h.perm).trans List.perm_middle⟩
variable{α:Type}
theorem Ri(f:α->List Value)(s:Nat)(a:∀x,(f x).length=s):∀(l:List α)(i j:Nat),j<s->(l.flatMap f)[i*s+j]? =(l[i]?).bind λx=>(f x)[j]?
 |[],i,j,_=>by simp
 |x::l,0,j,b=>by
  grind
 |x::l,i+1,j,b=>by
  simp only[List.flatMap_cons,List.getElem?_cons_succ];rw[List.getElem?_append_right (by rw[a,Nat.add_mul];omega),a];have:(i+1)*s+j-s=i*s+j:=by grind
  simp_all [Ri]
theorem Aj(f:α->List Value)(s:Nat)(b:∀x,(f x).length=s)(l:List α):(l.flatMap f).length=l.length*s:=by
 induction l with
 |nil=>simp
 |cons x l a=>grind
theorem Bs(f:α->List Value)(s:Nat)(c:∀x,(f x).length=s){l:List α}{k:Nat}{x:α}(e:∀i u,(l.flatMap f)[i]? =some u->CM M b (off+i) u)(hk:l[k]? =some x):∀i v,(f x)[i]? =some v->CM M b (off+k*s+i) v:=λi v a=>by
 have d:i<s:=by rw[<-c x];exact(List.getElem?_eq_some_iff.1 a).1
 have:=e (k*s+i) v (by rw[Ri f s c l k i d,hk];exact a)
 rwa[<-Nat.add_assoc]at this
section
variable{P:Program}{ops:Array Oper}{N:Fs}{F:Fr}{W:World}{X:List Nat}{M0 M:Mem}{L:Lc}{o:Oper}{Q:Exit->Act->World->Prop}{rest:List Oper}
theorem St.freeze'{g:Nat}{a:Obj}(b:g∉X){w:World}(h:St ⟨W,X,M0⟩ M ((g,a)::L) w):St ⟨W,X,M0⟩ (M.set g a) L w/\MLe M (M.set g a)/\(M.set g a) g=some a:=
 ⟨(h.freeze b).1,(h.freeze b).2,by simp[Mem.set]⟩
theorem Az{b:Obj}{L2:Lc}(g:Nat)[d:Rm g b L L2](e:g∉X)(h:∀M',MLe M M'->M' g=some b->JL P ops N Q rest F ⟨W,X,M0⟩ M' L2):JL P ops N Q rest F ⟨W,X,M0⟩ M L:=by
 intro a w f c;obtain⟨k,j,i⟩:=St.freeze' e (c.perm d.perm);exact h _ j i a w f k
theorem KX{c:Obj}{L2:Lc}(g:Nat)[f:Rm g c L L2](j:∀x∈X,x∈L2.map (·.1))(h:∀M',MLe M M'->M' g=some c->JL P ops N Q rest F ⟨W,X,M0⟩ M' L2):JL P ops N Q rest F ⟨W,X,M0⟩ M L:=by
 intro a w k e;have b:=e.perm f.perm;have i:g∉X:=λd=>(List.nodup_cons.1 b.nodup).1 (j g d);obtain⟨n,m,l⟩:=St.freeze' i b;exact h _ m l a w k n
theorem BL{c:Code}{b:Obj}{L2:Lc}(g:Nat)[e:Rm g b L L2](f:g∉X)(h:∀M',MLe M M'->M' g=some b->JC P N c F ⟨W,X,M0⟩ M' L2 Q):JC P N c F ⟨W,X,M0⟩ M L Q:=by
 intro a w i d;obtain⟨l,k,j⟩:=St.freeze' f (d.perm e.perm);exact h _ k j a w i l
theorem AF{c:Exit}{b:Obj}{L2:Lc}(g:Nat)[e:Rm g b L L2](f:g∉X)(h:∀M',MLe M M'->M' g=some b->JQ N c F ⟨W,X,M0⟩ M' L2 Q):JQ N c F ⟨W,X,M0⟩ M L Q:=by
 intro a w i d;obtain⟨l,k,j⟩:=St.freeze' f (d.perm e.perm);exact h _ k j a w i l
theorem Own.freeze{v:Value}{R:Lc}{e:TypeId}{size n:Nat}{xs:List Value}(f:Own v R e size n xs)(m:∀p∈R,p.1∉X){w:World}(h:St ⟨W,X,M0⟩ M (R++L) w):∃d a b,MLe M d/\v=.slice a n b/\n<=b/\SM d a xs/\St ⟨W,X,M0⟩ d L w:=by
 rcases f.2 with⟨rfl,rfl,rfl⟩|⟨g,b,c,rfl,rfl,o,B,z,y⟩
 ·have:xs=[]:=List.eq_nil_of_length_eq_zero (by simpa using f.1);subst this;exact⟨M,none,0,MLe.refl _,rfl,Nat.le_refl _,.inl rfl,h⟩
 obtain⟨l,k,j⟩:=St.freeze' (m (g,.cells c e (0,0)) (by simp)) h;refine⟨_,_,b,k,rfl,o,.inr ⟨g,0,rfl,λi u s=>⟨c,e,(0,0),j,?_⟩⟩,l⟩;grind
theorem Hn{v:Value}{R L2:Lc}{e:TypeId}{size n:Nat}{xs:List Value}(l:Own v R e size n xs)[k:Pick R L L2](m:∀p∈R,p.1∉X)
  (h:∀M' a b,MLe M M'->v=.slice a n b->n<=b->SM M' a xs->JL P ops N Q rest F ⟨W,X,M0⟩ M' L2):JL P ops N Q rest F ⟨W,X,M0⟩ M L:=by
 intro a w o j;obtain⟨M',s,b,i,g,f,d,c⟩:=l.freeze m (j.perm k.perm);exact h M' s b i g f d a w o c
theorem Je{c:Code}{v:Value}{R L2:Lc}{e:TypeId}{size n:Nat}{xs:List Value}(m:Own v R e size n xs)[l:Pick R L L2](o:∀p∈R,p.1∉X)
  (h:∀M' a b,MLe M M'->v=.slice a n b->n<=b->SM M' a xs->JC P N c F ⟨W,X,M0⟩ M' L2 Q):JC P N c F ⟨W,X,M0⟩ M L Q:=by
 intro a w s k;obtain⟨M',u,b,j,i,g,f,d⟩:=m.freeze o (k.perm l.perm);exact h M' u b j i g f a w s d
theorem BK{c:Exit}{v:Value}{R L2:Lc}{e:TypeId}{size n:Nat}{xs:List Value}(m:Own v R e size n xs)[l:Pick R L L2](o:∀p∈R,p.1∉X)
  (h:∀M' a b,MLe M M'->v=.slice a n b->n<=b->SM M' a xs->JQ N c F ⟨W,X,M0⟩ M' L2 Q):JQ N c F ⟨W,X,M0⟩ M L Q:=by
 intro a w s k;obtain⟨M',u,b,j,i,g,f,d⟩:=m.freeze o (k.perm l.perm);exact h M' u b j i g f a w s d
theorem Own.form{v:Value}{R:Lc}{e:TypeId}{size n:Nat}{xs:List Value}(c:Own v R e size n xs):∃a b,v=.slice a n b:=by
 rcases c.2 with⟨h,rfl,_⟩|⟨g,b,d,h,_⟩
 ·grind
 grind
theorem Own.open{v:Value}{R:Lc}{e:TypeId}{size n:Nat}{xs:List Value}(c:Own v R e size n xs)(d:0<n):∃g a b,v=.slice (some ⟨g,0,none⟩) n a/\R=[(g,.cells b e (0,0))]/\n<=a/\a<=maxLen/\b.size=a*size/\b.toList.take (n*size)=xs:=by
 rcases c.2 with⟨_,h,_⟩|h
 ·omega
 omega
theorem Own.cj{g n b:Nat}{R:Lc}{e:TypeId}{size:Nat}{xs:List Value}(f:Own (.slice (some ⟨g,0,none⟩) n b) R e size n xs)(j:∀p∈R,p∈L){i:Nat}{u:Value}(k:xs[i]? =some u):CJ M L g i u:=by
 rcases f.2 with⟨h,_,_⟩|⟨w,c,a,d,rfl,s,o,m,l⟩
 ·cases h
 cases d;refine⟨a,e,(0,0),.inr (j _ (by simp)),?_⟩;grind
theorem D0{E:Ent}{t:TypeId}{x y:Operand}{u v:Value}{g k size n:Nat}{R L2:Lc}{e:TypeId}{xs:List Value}{C:Nat}{z:List Value}(Y:gd ops F o=some true)(U:o.op=.store t x y)(Q:ev F x=some (.pointer (some ⟨g,k,none⟩)))(O:ev F y=some u)
  [W:Lay P t 1 C z] (Z:u.cells=#[u]) (h1:u.oneCell'=true) (c:Own v R e size n xs) (hb:v.ownBlock=some g) (hk:k<n*size) [T:Pick R L L2]:
  HF P ops N F E M L o (λ_ M' L'=>M=M'/\∃H,L'=H++L2/\Own v H e size n (xs.set k u)):=CP Y λa w G S=>by
 obtain⟨ti,zv,X,m,_⟩:=W.info
 have f:=S.perm T.perm
 have V:0<n:=(Nat.eq_zero_or_pos n).resolve_left λh=>by subst h;simp at hk
 obtain⟨d,B,b,rfl,rfl,D,K,J,I⟩:=c.open V
 have:d=g:=by simpa [Value.ownBlock]using hb
 subst this
 have s:=(f.locs (d,.cells b e (0,0)) (by simp)).1
 have l:k<b.size:=by rw[J];exact Nat.lt_of_lt_of_le hk (Nat.mul_le_mul_right _ D)
 have i:=run_storeCells_at P d k e [u] 0 b w s (by simp;omega) (by simp[h1])
 have j:PutAt d (.cells b e (0,0)) (.cells (b.toList.take (k+0)++[u]++b.toList.drop (k+0+[u].length)).toArray e (0,0)) ([(d,Obj.cells b e (0,0))]++L2) ([(d,.cells (b.toList.take (k+0)++[u]++b.toList.drop (k+0+[u].length)).toArray e (0,0))]++L2):=⟨[],L2,rfl,rfl⟩
 refine⟨undef,_,M,_,.inr ⟨rfl,?_⟩,f.put j,rfl,_,rfl,?_⟩
 ·simp only[execOp,U,G.ev Q,G.ev O,Instr.storeAt,Instr.sureAddr,storeVar,sizeOf,typeInfo,X,m,Z,Sem.run_bind,run_program,Sem.run_pure,Result.andThen_ok]
  simp[i]
 refine⟨by rw[List.length_set];exact c.1,.inr ⟨d,B,_,rfl,rfl,D,K,?_,?_⟩⟩
 ·simp;omega
 have e1:b.toList.take (k+0)++[u]++b.toList.drop (k+0+[u].length)=b.toList.set k u:=by
  rw[List.set_eq_take_append_cons_drop,if_pos (by simpa using l)];simp
 rw[e1,<-I,<-List.take_set]
theorem SM.of_block{M:Mem}{b:Nat}{l:List Value}{e:TypeId}{fz:Nat×Nat}(h:M b=some (.cells l.toArray e fz)):SM M (some ⟨b,0,none⟩) l:=.inr ⟨b,0,rfl,λi u a=>⟨_,e,fz,h,by simpa using a⟩⟩
theorem Qe{x:Operand}{t e:TypeId}{b off n c a:Nat}{z:List Value}(g:gd ops F o=some true)(f:o.op=.slice t x none none none)(d:ev F x=some (.pointer (some ⟨b,off,none⟩)))[h:Und P t (.array n e)][hs:Lay P e c a z]:QF P ops N F M L o (.slice (some ⟨b,off,none⟩) n n):=
 Bh (wYp g f d (.no _) (.no _) (.no _) ⟨Nat.zero_le _,Nat.le_refl _,Nat.le_refl _⟩ (.inl rfl)) (by simp[AU])
theorem Kc{E:Ent}{t:TypeId}{x y:Operand}{b:Nat}{l cs:List Value}{e:TypeId}{L':Lc}{d g:Nat}{z:List Value}(H:gd ops F o=some true)(B:o.op=.store t x y)(s:ev F x=some (.pointer (some ⟨b,0,none⟩)))(n:ev F y=some (.agg cs.toArray))
  [D:Lay P t d g z] (C:cs.length=d) (K:∀v∈cs,v.oneCell'=true) [h:At b (.cells l.toArray e (0,0)) L] (k:l.length=d) [u:PutAt b (.cells l.toArray e (0,0)) (.cells cs.toArray e (0,0)) L L']:
  HF P ops N F E M L o (λ_ O i=>M=O/\i=L'):=CP H λa w m j=>by
 obtain⟨Q,v,G,f,_⟩:=D.info
 have J:=(j.locs _ h.mem).1
 refine⟨undef,_,M,L',.inr ⟨rfl,?_⟩,j.put u,rfl,rfl⟩
 have c:=run_storeCells_at P b 0 e cs 0 l.toArray w J (by simp;omega) K
 have I:List.drop cs.length l=[]:=List.drop_eq_nil_of_le (by omega)
 simp only[Nat.add_zero,List.take_zero,List.nil_append,Nat.zero_add,I,List.append_nil]at c
 simp[execOp,B,m.ev s,m.ev n,Instr.storeAt,Instr.sureAddr,storeVar,sizeOf,typeInfo,G,f,Value.cells,C,c]
theorem Sf{x y:Operand}{t d e:TypeId}{a:Option Addr}{n c:Nat}(k:gd ops F o=some true)(j:o.op=.binOp .eql t x y d)(g:ev F x=some (.slice a n c))(f:ev F y=some (.slice none 0 0))[i:Und P t (.slice e)]:QF P ops N F M L o (.bool a.isNone):=Bv k λl b w _=>by
 have:=Lib.run_eql_slice_nil (P:=P) w t e a n c 0 0 i.h
 simp only[execOp,j,b.ev g,b.ev f]
 simp[eqGuard,this]
end
class AllInt(P:Program)(t:TypeId)(ks:outParam (List IntKind)):Prop where
 u:P.underlying t=some (.struct (P.fieldsOf t)):=by kernel_rfl
 f : (P.fieldsOf t).toList.map (fun f => (f.name != "_", f.offset, P.underlying f.type)) = ks.zipIdx.map fun (k, i) => (true, i, some (.int k)) := by kernel_rfl
 s:P.stoodInHeld t=false:=by kernel_rfl
 g:P.eqGuardType P.depth t=false:=by kernel_rfl
def DN(ks:List IntKind)(ns:List Int):List Value:=List.zipWith Value.int ks ns
variable{P:Program}
theorem EB(d:Nat)(xs s:Array Value)(w:World):∀(c:List Field)(a:List IntKind)(i:Nat)(ns ms:List Int),ns.length=a.length->ms.length=a.length->
  c.map (fun f => (f.name != "_", f.offset, P.underlying f.type)) = (a.zipIdx i).map (fun (k, i) => (true, i, some (.int k))) →
  (∀j v,(DN a ns)[j]? =some v->xs[i+j]? =some v)->(∀j v,(DN a ms)[j]? =some v->s[i+j]? =some v)->
  (Op.eqFields (d+1) xs s c).run P w=.ok (decide (ns=ms)) w
 |[],a,i,ns,ms,l,h,g,_,_=>by
  have:a=[]:=by simp_all
  subst this;have I:ns=[]:=List.eq_nil_of_length_eq_zero l;have H:ms=[]:=List.eq_nil_of_length_eq_zero h;subst I H;simp[Op.eqFields]
 |f::c,[],i,ns,ms,l,h,g,_,_=>by simp_all
 |f::c,k::a,i,[],ms,l,h,g,_,_=>by grind
 |f::c,k::a,i,ns,[],l,h,g,_,_=>by grind
 |f::c,k::a,i,n::ns,m::ms,l,h,g,C,B=>by
  simp only[List.map_cons,List.zipIdx_cons,List.cons.injEq,Prod.mk.injEq]at g;obtain⟨⟨K,G,D⟩,b⟩:=g;have z:=C 0 _ (by simp[DN];rfl);have y:=B 0 _ (by simp[DN];rfl);simp only[Nat.add_zero]at z y;have E:∀(cs:Array Value)(v:Value),cs[i]? =some v->(part f.type cs f.offset).run P w=.ok v w:=λcs v o=>by
   simp[part,C1 D,HR,G,o]
  have u : f.name ≠ "_" := by grind
  have J:=EB d xs s w c a (i+1) ns ms (by simpa using l) (by simpa using h) b
   (λj v o=>by have:=C (j+1) v (by simpa [DN]using o);rwa[show i+(j+1)=i+1+j by omega]at this)
   (λj v o=>by have:=B (j+1) v (by simpa [DN]using o);rwa[show i+(j+1)=i+1+j by omega]at this)
  have F:(Op.equalIn (d+1) f.type (.int k n) (.int k m)).run P w=.ok (n==m) w:=run_equalIn_int w d f.type k k n m D;unfold Op.eqFields;simp only[u,ne_eq,not_false_eq_true,if_true,Sem.run_bind,E xs _ z,E s _ y,Result.andThen_ok,F];by_cases e:n=m
  ·simp_all
  simp_all
section
variable{P:Program}{ops:Array Oper}{N:Fs}{F:Fr}{M:Mem}{L:Lc}{o:Oper}
theorem wYu{x y:Operand}{t i:TypeId}{a:List IntKind}{ns ms:List Int}{xs b:List Value}(z:gd ops F o=some true)(n:o.op=.binOp .eql t x y i)(l:ev F x=some (.agg xs.toArray))(k:ev F y=some (.agg b.toArray))[h:AllInt P t a]
  (C:xs=DN a ns) (B:b=DN a ms) (e:ns.length=a.length/\ms.length=a.length):QF P ops N F M L o (.bool (decide (ns=ms))):=Bv z λE d w _=>by
 have m:=EB (P:=P) 9998 xs.toArray b.toArray w _ a 0 ns ms e.1 e.2 h.f (λj v c=>by simpa [C]using c) (λj v c=>by simpa [B]using c)
 have D:(binOp .eql t (.agg xs.toArray) (.agg b.toArray)).run P w=.ok (.bool (decide (ns=ms))) w:=by
  rw[run_eql_struct w t,run_equalIn_struct w 9999 t _ _ h.u h.s,m];rfl
 simp only[execOp,n,d.ev l,d.ev k]
 simp only[Sem.run_bind,run_eqGuard_agg w _ t x y _ _ h.g,Result.andThen_ok,D,Sem.run_pure]
theorem VX{x y:Operand}{t i:TypeId}{a:List IntKind}{ns ms:List Int}{xs b:List Value}(z:gd ops F o=some true)(n:o.op=.binOp .neq t x y i)(l:ev F x=some (.agg xs.toArray))(k:ev F y=some (.agg b.toArray))[h:AllInt P t a]
  (C:xs=DN a ns) (B:b=DN a ms) (e:ns.length=a.length/\ms.length=a.length):QF P ops N F M L o (.bool (decide (¬ns=ms))):=Bv z λE d w _=>by
 have m:=EB (P:=P) 9998 xs.toArray b.toArray w _ a 0 ns ms e.1 e.2 h.f (λj v c=>by simpa [C]using c) (λj v c=>by simpa [B]using c)
 have D:(binOp .neq t (.agg xs.toArray) (.agg b.toArray)).run P w=.ok (.bool (decide (¬ns=ms))) w:=by
  rw[run_neq_struct w t,run_equalIn_struct w 9999 t _ _ h.u h.s,m];simp
 simp only[execOp,n,d.ev l,d.ev k]
 simp only[Sem.run_bind,run_eqGuard_agg w _ t x y _ _ h.g,Result.andThen_ok,D,Sem.run_pure]
end
def Em(P:Program)(l:Nat)(args:Array Value)(M:Mem)(L:Lc)(post:Value->Mem->Lc->Prop):Prop:=
 ∀w,St ⟨w,L.map (·.1),M⟩ M L w->YieldAt Fence.wide 0 P l args w λe w'=>∃v M' L',e=.returned v/\post v M' L'/\St ⟨w,L.map (·.1),M⟩ M' L' w'
section
variable{P:Program}{ops:Array Oper}{N:Fs}{F:Fr}{E:Ent}{M:Mem}{L:Lc}{o:Oper}
theorem VD{x:Operand}{xs:List Operand}{T:Array TypeId}{l:Nat}{vs:List Value}{a:Act}(e:o.op=.call { callee:=.value x,args:=xs.toArray,argTypes:=T })(b:Has N F a)(c:ev F x=some (.func (.yield l) #[] #[]))(d:evs F xs=some vs)
  (w:World):(execOp a.eval o).run P w=(Instr.yield l vs.toArray).run P w:=by
 have g:=b.evs d;have f:xs.toArray.map a.eval=vs.toArray:=by grind
 simp[execOp,e,resolve,f,b.ev c,Deferred.ofValue,invoke]
theorem K4{x:Operand}{xs:List Operand}{T:Array TypeId}{l:Nat}{vs:List Value}{R L2:Lc}{post:Value->Mem->Lc->Prop}(D:gd ops F o=some true)
  (j:o.op=.call { callee:=.value x,args:=xs.toArray,argTypes:=T }) (u:ev F x=some (.func (.yield l) #[] #[])) (z:evs F xs=some vs)
  (hs:Em P l vs.toArray M R post) [B:Pick R L L2]:HF P ops N F E M L o (λv g K=>MLe M g/\∃f,K=f++L2/\post v g f):=λa w m y=>
 ⟨Fq m D,λQ=>by
  have d:=y.perm B.perm
  refine⟨λ_ _=>trivial,?_⟩
  obtain⟨fn,t,i,J,I,H⟩:=hs w d.into
  rw[Oper.semAt_eq _ _ _ (λc k=>by rw[j]at k;cases k),VD j m u z w,I]
  refine⟨Fy _ _,?_⟩
  have G:RoundIn (FF N.r) (0-1) P l fn t i J w _:=H
  refine G.mono λe O C=>?_
  obtain⟨v,g,f,rfl,b,h⟩:=C
  obtain⟨s,n⟩:=d.back h
  exact⟨v,g,f++L2,rfl,s,n,f,rfl,b⟩⟩
end
def Iter(P:Program)(gf:FuncId)(lb:List Value)(M:Mem){α:Type}(enc:α->List Value)(xs:List α):Prop:=
 ∀(l:Nat)(J Jx:List α->Mem->Lc->Prop)(M1:Mem)(L:Lc),MLe M M1->
  (∀pre y M2 L2,MLe M1 M2->J pre M2 L2->pre++[y]<+:xs->Em P l (enc y).toArray M2 L2 λv M' L'=>(v=.bool true/\J (pre++[y]) M' L')\/(v=.bool false/\Jx (pre++[y]) M' L'))->
  J [] M1 L->SpecL P gf (.func (.yield l) #[] #[]::lb).toArray M1 L λ_ M' L'=>J xs M' L'\/∃pre,pre<+:xs/\Jx pre M' L'
def wSc(b:Bool)(P:Program)(gf:FuncId)(lb:List Value)(M:Mem){α:Type}(En:α->Mem->List Value->Prop)(xs:List α):Prop:=
 ∀(l:Nat)(J Jx:List α->Mem->Lc->Prop)(M1:Mem)(L:Lc),MLe M M1->(b=true->∀pre M2 M3 L2,MLe M2 M3->J pre M2 L2->J pre M3 L2)->
  (∀pre y M2 L2 vs,MLe M1 M2->J pre M2 L2->pre++[y]<+:xs->En y M2 vs->Em P l vs.toArray M2 L2 λv M' L'=>(v=.bool true/\J (pre++[y]) M' L')\/(v=.bool false/\Jx (pre++[y]) M' L'))->
  J [] M1 L->SpecL P gf (.func (.yield l) #[] #[]::lb).toArray M1 L λ_ M' L'=>J xs M' L'\/∃pre,pre<+:xs/\Jx pre M' L'
variable{M:Mem}{P:Program}{gf:FuncId}{lb:List Value}{α:Type}{enc:α->List Value}{xs:List α}
theorem Iter.rel(h:Iter P gf lb M enc xs):wSc false P gf lb M (λy _ vs=>vs=enc y) xs:=
 λl J i M1 L d _ e f=>h l J i M1 L d (λpre y g L2 a b c=>e pre y g L2 _ a b c rfl) f
def Sw:List Nat->List Value->Fr->Fr
 |p::ps,v::vs,F=>Sw ps vs ((p,v)::F)
 |_,_,F=>F
variable{n:Nat}
theorem Has.zip{r:Option Nat}:∀(ps:List Nat)(vs:List Value)(F:Fr)(t:Array Value),(∀p∈ps,p<n)->Has ⟨n,[],r⟩ F { tmps:=t,defers:=[] }->
  Has ⟨n,[],r⟩ (Sw ps vs F) { tmps:=(ps.zip vs).foldl (λt (p,v)=>t.setIfInBounds p v) t,defers:=[] }
 |[],_,_,_,_,h=>h
 |_::_,[],_,_,_,h=>h
 |p::ps,v::vs,F,t,a,h=>Has.zip ps vs ((p,v)::F) _ (λq b=>a q (by simp[b])) (h.put (d:=p) (a p (by simp)) v)
def Na{α:Type}(E:Ent)(I:List α->Mem->Lc->Prop)(Ix:Code->List α->Mem->Lc->Prop)(pre:List α):Exit->Act->World->Prop
 |.normal,_,w=>∃M' R',I pre M' R'/\St E M' R' w
 |.ret,_,w=>∃M' R',Ix .ret pre M' R'/\St E M' R' w
 |.exit id,_,w=>∃M' R',Ix (.exit id) pre M' R'/\St E M' R' w
 |.goto t,_,w=>∃M' R',Ix (.goto t) pre M' R'/\St E M' R' w
 |.panic _,_,_=>False
 |.outgrown,_,_=>False
def Nc{α:Type}(P:Program)(n l:Nat)(body:Code)(W:World)(X:List Nat)(M1:Mem)(I:List α->Mem->Lc->Prop)(Ix:Code->List α->Mem->Lc->Prop)(pre:List α)(a:Act)(w:World):Prop:=
 ∃F' M' R',Has ⟨n,[],some l⟩ F' a/\St ⟨W,X,M1⟩ M' R' w/\∀W',W'.heap.size=W.heap.size->JC P ⟨n,[],some l⟩ body F' ⟨W',X,M1⟩ M' R' (Na ⟨W',X,M1⟩ I Ix pre)
variable{F:Fr}{M1:Mem}{Q:Exit->Act->World->Prop}{R:Lc}{W:World}{X:List Nat}{body:Code}{l:Nat}{I:List α->Mem->Lc->Prop}{Ix:Code->List α->Mem->Lc->Prop}{pre:List α}
theorem jKN
  (h:∀a,a.heap.size=W.heap.size->JC P ⟨n,[],some l⟩ body F ⟨a,X,M1⟩ M R (Na ⟨a,X,M1⟩ I Ix pre)):JQ ⟨n,[],some l⟩ .normal F ⟨W,X,M1⟩ M R (Exit.then (Nc P n l body W X M1 I Ix pre) Q):=
 λ_ _ c b=>⟨F,M,R,c,b,h⟩
theorem jK
  (h:∀a,JC P ⟨n,[],some l⟩ body F ⟨a,X,M1⟩ M R (Na ⟨a,X,M1⟩ I Ix pre)):JQ ⟨n,[],some l⟩ .normal F ⟨W,X,M1⟩ M R (Exit.then (Nc P n l body W X M1 I Ix pre) Q):=
 λ_ _ c b=>⟨F,M,R,c,b,λa _=>h a⟩
variable{E:Ent}{N:Fs}
theorem wJi(h:I pre M R):JQ N .normal F E M R (Na E I Ix pre):=λ_ _ _ a=>⟨M,R,h,a⟩
theorem jQr(h:Ix .ret pre M R):JQ N .ret F E M R (Na E I Ix pre):=λ_ _ _ a=>⟨M,R,h,a⟩
variable{id:Nat}
theorem jQx(h:Ix (.exit id) pre M R):JQ N (.exit id) F E M R (Na E I Ix pre):=λ_ _ _ a=>⟨M,R,h,a⟩
variable{M0:Mem}{w:World}
theorem St.both(o:Obj)(h:St ⟨W,X,M0⟩ M R w)(c:l<W.heap.size)(j:l∉X)(n:M0 l=none):St ⟨W.putObj l o,X,M0⟩ M R (w.putObj l o):=by
 have d:M l=none:=(h.fresh l c).trans n;refine { os:=h.os,tape:=h.tape,output:=h.output,size:=by simpa using h.size,same:=λk g f=>?_,fresh:=λk g=>h.fresh k (by simpa using g),agree:=λb x i=>?_,locs:=λp m=>?_,nodup:=h.nodup }
 ·by_cases e:k=l
  ·subst e;rw[World.putObj_heap_same (Nat.lt_of_lt_of_le c h.size),World.putObj_heap_same c]
  rw[World.putObj_heap_other e,World.putObj_heap_other e];exact h.same k (by simpa using g) f
 ·have e:b≠l:=λe=>by subst e;rw[d]at i;cases i
  rw[World.putObj_heap_other e];exact h.agree b x i
 obtain⟨u,a,s⟩:=h.locs p m;have e:p.1≠l:=λe=>a.elim (λa=>by rw[e]at a;exact absurd c (Nat.not_lt.2 a)) (λa=>j (e▸a));exact⟨by rw[World.putObj_heap_other e];exact u,by simpa using a,s⟩
variable{o:Obj}
theorem St.close{d:Nat}{o2 C:Obj}(h:St ⟨W.putObj l o,X,M0⟩ M R w)(G:l<W.heap.size)(D:W.heap[d]? =some C)(f:l≠d)(y:l∉X)(j:d∉X)(s:M0 l=none)(u:M0 d=none):
  St ⟨W,l::d::X,M0⟩ M ((l,o2)::(d,C)::R) (w.putObj l o2):=by
 have F:W.heap.size<=w.heap.size:=by simpa using h.size
 have m:d<W.heap.size:=Bw D;have E:M l=none:=(h.fresh l (by simpa using G)).trans s;have H:M d=none:=(h.fresh d (by simpa using m)).trans u;have i:∀p∈R,W.heap.size<=p.1\/p.1∈X:=λp i=>by simpa using (h.locs p i).2.1
 have g:∀p∈R,p.1≠l:=λp a e=>(i p a).elim (λh=>by omega) (λh=>y (e▸h));have n:∀p∈R,p.1≠d:=λp a e=>(i p a).elim (λh=>by omega) (λh=>j (e▸h));refine { os:=h.os,tape:=h.tape,output:=h.output,size:=by simpa using F,same:=λk z c=>?_,fresh:=λk z=>h.fresh k (by simpa using z),agree:=λb x B=>?_,locs:=λp a=>?_,nodup:=?_ }
 ·simp only[List.mem_cons,not_or]at c;rw[World.putObj_heap_other c.1,h.same k (by simpa using z) c.2.2,World.putObj_heap_other c.1]
 ·have e:b≠l:=λe=>by subst e;rw[E]at B;cases B
  rw[World.putObj_heap_other e];exact h.agree b x B
 ·rcases List.mem_cons.1 a with rfl|a
  ·exact ⟨World.putObj_heap_same (by omega),.inr (by simp),E⟩
  rcases List.mem_cons.1 a with rfl|a
  ·refine ⟨?_,.inr (by simp),H⟩;show (w.putObj l o2).heap[d]? =_;rw[World.putObj_heap_other (Ne.symm f),h.same d (by simpa using m) j,World.putObj_heap_other (Ne.symm f)];exact D
  refine⟨by rw[World.putObj_heap_other (g p a)];exact(h.locs p a).1,(i p a).imp id (λh=>by simp[h]),(h.locs p a).2.2⟩
 simp only[List.map_cons,List.nodup_cons,List.mem_cons,List.mem_map,not_or];exact⟨⟨f,λ⟨p,a,e⟩=>g p a e⟩,λ⟨p,a,e⟩=>n p a e,h.nodup⟩
variable{D:List Deferred}{L L2:Lc}{assign:Code}{b:Bool}{g:Operand}{ps:List Nat}{En:α->Mem->List Value->Prop}
theorem QO
  (hg:ev F g=some (.func (.func gf) #[] lb.toArray)) (hgo:Dn P gf=true) (a1:wSc b P gf lb M En xs) [hp:Pick R L L2]
  (I:List α->Mem->Lc->Prop) (Ix:Code->List α->Mem->Lc->Prop) (aj:∀y M' vs,En y M' vs->vs.length=ps.length) (ay:∀t∈ps,t<n) (h0:I [] M R) (a5:b=true->∀pre M2 k R,MLe M2 k->I pre M2 R->I pre k R)
  (S:∀l W pre y M1 O vs,(∀x∈O.map (·.1),x<W.heap.size)->MLe M M1->I pre M1 O->pre++[y]<+:xs->En y M1 vs->
   JC P ⟨n,[],some l⟩ assign (Sw ps vs F) ⟨W,O.map (·.1),M1⟩ M1 O (Exit.then (Nc P n l body W (O.map (·.1)) M1 I Ix (pre++[y])) (λ_ _ _=>False)))
  (ad:∀(d:Nat) M1 O,MLe M M1->I xs M1 O->JQ ⟨n,d::D,none⟩ .normal F E M1 ((d,.deferred (some []))::(O++L2)) Q)
  (aa:∀(d:Nat) c pre M1 O,MLe M M1->pre<+:xs->Ix c pre M1 O->JC P ⟨n,d::D,none⟩ c F E M1 ((d,.deferred (some []))::(O++L2)) Q):
  JC P ⟨n,D,none⟩ (.rangeFunc g ps.toArray assign body) F E M L Q:=by
 intro a w ha hw;refine wpIn_rangeFunc (F:=FF none) λfn _=>?_;obtain⟨f,i⟩:∃f:LoopState->Option Code->Loop,f=λst pe=>{ state:=st,pending:=pe,fn,tmps:=a.tmps,params:=ps.toArray,assign,body,defers:=w.heap.size }:=⟨_,rfl⟩;have ax:=hw.perm hp.perm;have aw:=ax.alloc (.deferred (some []));have ah:=aw.alloc (.loop (f .ready none));rw[World.size_alloc]at ah;generalize hd:w.heap.size=d at *;generalize hl:d+1=l at *;generalize a3:(w.alloc (.deferred (some []))).alloc (.loop (f .ready none))=W1 at *;let yv:Value:=.func (.yield l) #[] #[];let J:List α->Mem->Lc->Prop:=λpre M' L'=>∃C,L'=(l,.loop (f .ready none))::(d,.deferred (some []))::C/\MLe M M'/\I pre M' C;let Jx:List α->Mem->Lc->Prop:=λpre M' L'=>∃c C,L'=(l,.loop (f .done (some c)))::(d,.deferred (some []))::C/\Ix c pre M' C;have az:l≠d:=by omega
 have G:∀pre y M2 af vs,MLe M M2->J pre M2 af->pre++[y]<+:xs->En y M2 vs->Em P l vs.toArray M2 af λv M' L'=>(v=.bool true/\J (pre++[y]) M' L')\/(v=.bool false/\Jx (pre++[y]) M' L'):=by
  rintro pre y M2 af vs a8 ⟨R2,rfl,N,hI⟩ H hE W hW;have m:=hW.locs (l,.loop (f .ready none)) (by simp);have am:=hW.locs (d,.deferred (some [])) (by simp);have ai:=hW.nodup;simp only[List.map_cons,List.nodup_cons,List.mem_cons,not_or]at ai;obtain⟨⟨_,wPc⟩,a2,_⟩:=ai;have hy:=run_yield (P:=P) (args:=vs.toArray) m.1 (by rw[i];simp[aj _ _ _ hE]);rw[i]at hy;have ak:St ⟨W,R2.map (·.1),M2⟩ M2 R2 W:=(hW.perm (L':=R2++[(l,.loop (f .ready none)),(d,.deferred (some []))]) (List.perm_append_comm (l₁:=[_,_]))).into;have al:Has ⟨n,[],some l⟩ F { tmps:=a.tmps,defers:=[] }:=⟨ha.size,rfl,ha.get⟩;have hz:=Has.zip ps vs F a.tmps ay al;refine⟨fn,_,assign,body,hy,roundIn_of_wpIn trivial ?_⟩;have h1:=S l W pre y M2 R2 vs (λx hx=>by obtain⟨p,hp,rfl⟩:=List.mem_map.1 hx;exact Bw (ak.locs p hp).1) N hI H hE _ W hz ak;rw[show (ps.toArray.zip vs.toArray).foldl (λ(t:Array Value)(x:Nat×Value)=>t.setIfInBounds x.1 x.2) a.tmps=(ps.zip vs).foldl (λt (p,v)=>t.setIfInBounds p v) a.tmps by simp];refine wpIn_mono h1 λe av ag z=>?_;cases e with
  |normal=>
   obtain⟨F',M',C,a6,U,ae⟩:=z
   have K:ag.heap[l]? =some (.loop (f .ready none)):=(U.same l (Bw m.1) wPc).trans m.1
   refine⟨_,run_beginRound K (by rw[i]),?_⟩
   have aq:=U.both (.loop { f .ready none with state:=.busy }) (Bw m.1) wPc m.2.2
   refine wpIn_mono (ae _ (by simp) av _ a6 aq) λe a7 u z=>?_
   have V:∀(j:Option Code)(k:Mem)(o:Lc),St ⟨W.putObj l (.loop { f .ready none with state:=.busy }),R2.map (·.1),M2⟩ k o u->
     ∃h,(Instr.endRound l j).run P u=.ok (.bool j.isNone) h/\St ⟨W,l::d::R2.map (·.1),M2⟩ k ((l,.loop (f (if j.isNone then .ready else .done) j))::(d,.deferred (some []))::o) h:=λj k o B=>by
    have a0:u.heap[l]? =some (.loop { f .ready none with state:=.busy }):=(B.same l (by simpa using Bw m.1) wPc).trans (World.putObj_heap_same (Bw m.1))
    have T:=run_endRound (P:=P) j a0
    refine⟨_,T,?_⟩
    have:=B.close (o2:=.loop (f (if j.isNone then .ready else .done) j)) (Bw m.1) am.1 az wPc a2 m.2.2 am.2.2
    rw[i]at this⊢
    exact this
   have au:∀{k o},St ⟨W.putObj l (.loop { f .ready none with state:=.busy }),R2.map (·.1),M2⟩ k o u->MLe M k:=λB b ob Y=>by
    have ao:=N b ob Y
    have:=Bw (hW.agree b ob ao)
    rw[B.fresh b (by simpa using this)];exact ao
   cases e with
   |normal=>
    obtain⟨k,o,s,B⟩:=z
    obtain⟨h,T,h4⟩:=V none k o B
    exact⟨_,h,T,_,k,_,rfl,.inl ⟨rfl,o,rfl,au B,s⟩,h4⟩
   |ret=>
    obtain⟨k,o,s,B⟩:=z
    obtain⟨h,T,h4⟩:=V (some .ret) k o B
    exact⟨_,h,T,_,k,_,rfl,.inr ⟨rfl,_,o,rfl,s⟩,h4⟩
   |exit id=>
    obtain⟨k,o,s,B⟩:=z
    obtain⟨h,T,h4⟩:=V (some (.exit id)) k o B
    exact⟨_,h,T,_,k,_,rfl,.inr ⟨rfl,_,o,rfl,s⟩,h4⟩
   |goto t=>
    obtain⟨k,o,s,B⟩:=z
    obtain⟨h,T,h4⟩:=V (some (.goto t)) k o B
    exact⟨_,h,T,_,k,_,rfl,.inr ⟨rfl,_,o,rfl,s⟩,h4⟩
   |panic ch=>exact z.elim
   |outgrown=>exact z.elim
  |exit id=>exact z.elim
  |goto t=>exact z.elim
  |ret=>exact z.elim
  |panic ch=>exact z.elim
  |outgrown=>exact z.elim
 have ab:=a1 l J Jx M ((l,.loop (f .ready none))::(d,.deferred (some []))::R) (MLe.refl _) (λY pre M2 k L2 Z ⟨C,e1,e2,e3⟩=>⟨C,e1,e2.trans Z,a5 Y _ _ _ _ Z e3⟩) G ⟨R,rfl,MLe.refl _,h0⟩;have X:St E M (((l,.loop (f .ready none))::(d,.deferred (some []))::R)++L2) W1:=ah;have ap:Has ⟨n,d::D,none⟩ F { a with defers:=Nj d::a.defers }:=⟨ha.size,by rw[ha.defers],ha.get⟩;refine⟨l,[Nj d],W1,{ target:=.fn (.func gf) lb.toArray,args:=#[yv] },W1,gf,(yv::lb).toArray,W1,?_,?_,λ_ _=>trivial,?_,Fy _ _,?_⟩
 ·rw [<-a3,i,<-hl,<-hd];exact run_enterLoop_outer _ _ _ _ _
 ·have:=ha.ev hg;simp only[resolve,this];simp[go_sem,yv]
 ·simp [invoke,Hb hgo,yv]
 refine RL none _ ((ab W1 X.into).mono λe w' hh=>?_);obtain⟨v,M',L',rfl,ac,U⟩:=hh;obtain⟨Y,N⟩:=X.back U;rcases ac with⟨C,rfl,_,hI⟩|⟨pre,H,c,C,rfl,a4⟩
 ·have K:=(Y.locs (l,.loop (f .ready none)) (by simp)).1;refine⟨none,_,by have:=run_endLoop (P:=P) K (by rw[i];simp);rw[i]at this;exact this,?_⟩;exact ad d M' C N hI _ _ ap Y.shut
 have K:=(Y.locs (l,.loop (f .done (some c))) (by simp)).1;refine⟨some c,_,by have:=run_endLoop (P:=P) K (by rw[i];simp);rw[i]at this;exact this,?_⟩;exact aa d c pre M' C N H a4 _ _ ap Y.shut
theorem Te
  (u:ev F g=some (.func (.func gf) #[] lb.toArray)) (hgo:Dn P gf=true) (k:wSc b P gf lb M En xs) [z:Pick R L L2]
  (I:List α->Mem->Lc->Prop) (o:Code->List α->Mem->Lc->Prop) (i:∀y M' vs,En y M' vs->vs.length=ps.length) (j:∀t∈ps,t<n) (w:I [] M R) (m:b=true->∀pre M2 s R,MLe M2 s->I pre M2 R->I pre s R)
  (e:∀l W pre y M1 a vs,MLe M M1->I pre M1 a->pre++[y]<+:xs->En y M1 vs->
   JC P ⟨n,[],some l⟩ assign (Sw ps vs F) ⟨W,a.map (·.1),M1⟩ M1 a (Exit.then (Nc P n l body W (a.map (·.1)) M1 I o (pre++[y])) (λ_ _ _=>False)))
  (h:∀(d:Nat) M1 a,MLe M M1->I xs M1 a->JQ ⟨n,d::D,none⟩ .normal F E M1 ((d,.deferred (some []))::(a++L2)) Q)
  (f:∀(d:Nat) c pre M1 a,MLe M M1->pre<+:xs->o c pre M1 a->JC P ⟨n,d::D,none⟩ c F E M1 ((d,.deferred (some []))::(a++L2)) Q):
  JC P ⟨n,D,none⟩ (.rangeFunc g ps.toArray assign body) F E M L Q:=
 QO u hgo k I o i j w m (λl W pre y M1 a vs _=>e l W pre y M1 a vs) h f
theorem Tf
  (z:ev F g=some (.func (.func gf) #[] lb.toArray)) (hgo:Dn P gf=true) (s:Iter P gf lb M enc xs) [C:Pick R L L2]
  (I:List α->Mem->Lc->Prop) (u:Code->List α->Mem->Lc->Prop) (m:∀y,(enc y).length=ps.length) (o:∀t∈ps,t<n) (B:I [] M R)
  (i:∀l W pre y M1 f,(∀x∈f.map (·.1),x<W.heap.size)->MLe M M1->I pre M1 f->pre++[y]<+:xs->
   JC P ⟨n,[],some l⟩ assign (Sw ps (enc y) F) ⟨W,f.map (·.1),M1⟩ M1 f (Exit.then (Nc P n l body W (f.map (·.1)) M1 I u (pre++[y])) (λ_ _ _=>False)))
  (k:∀(d:Nat) M1 f,MLe M M1->I xs M1 f->JQ ⟨n,d::D,none⟩ .normal F E M1 ((d,.deferred (some []))::(f++L2)) Q)
  (j:∀(d:Nat) c pre M1 f,MLe M M1->pre<+:xs->u c pre M1 f->JC P ⟨n,d::D,none⟩ c F E M1 ((d,.deferred (some []))::(f++L2)) Q):
  JC P ⟨n,D,none⟩ (.rangeFunc g ps.toArray assign body) F E M L Q:=by
 exact QO (En:=λy _ vs=>vs=enc y) z hgo s.rel I u (λy _ vs h=>by rw[h];exact m y) o B (λh=>by cases h) (λl W pre y M1 f vs w a b c e=>by rw[e];exact i l W pre y M1 f w a b c) k j
theorem Ef
  (w:ev F g=some (.func (.func gf) #[] lb.toArray)) (hgo:Dn P gf=true) (s:Iter P gf lb M enc xs) [B:Pick R L L2]
  (I:List α->Mem->Lc->Prop) (u:Code->List α->Mem->Lc->Prop) (m:∀y,(enc y).length=ps.length) (o:∀t∈ps,t<n) (z:I [] M R)
  (i:∀l W pre y M1 f,MLe M M1->I pre M1 f->pre++[y]<+:xs->
   JC P ⟨n,[],some l⟩ assign (Sw ps (enc y) F) ⟨W,f.map (·.1),M1⟩ M1 f (Exit.then (Nc P n l body W (f.map (·.1)) M1 I u (pre++[y])) (λ_ _ _=>False)))
  (k:∀(d:Nat) M1 f,MLe M M1->I xs M1 f->JQ ⟨n,d::D,none⟩ .normal F E M1 ((d,.deferred (some []))::(f++L2)) Q)
  (j:∀(d:Nat) c pre M1 f,MLe M M1->pre<+:xs->u c pre M1 f->JC P ⟨n,d::D,none⟩ c F E M1 ((d,.deferred (some []))::(f++L2)) Q):
  JC P ⟨n,D,none⟩ (.rangeFunc g ps.toArray assign body) F E M L Q:=by
 exact Te (En:=λy _ vs=>vs=enc y) w hgo s.rel I u (λy _ vs h=>by rw[h];exact m y) o z (λh=>by cases h) (λl W pre y M1 f vs a b c e=>by rw[e];exact i l W pre y M1 f a b c) k j
instance(priority:=low) At.left{b:Nat}{o:Obj}{R L:Lc}[h:At b o R]:At b o (R++L):=⟨List.mem_append_left _ h.mem⟩
instance(priority:=low) PutAt.left{b:Nat}{o o':Obj}{R R' L:Lc}[h:PutAt b o o' R R']:PutAt b o o' (R++L) (R'++L):=⟨by
 obtain⟨A,B,h1,h2⟩:=h.ex;exact⟨A,B++L,by rw[h1];simp,by rw[h2];simp⟩⟩
instance(priority:=low) Rm.left{g:Nat}{ob:Obj}{R R2 L:Lc}[h:Rm g ob R R2]:Rm g ob (R++L) (R2++L):=⟨List.Perm.append_right L h.perm⟩
variable{F:Fr}{L:Lc}{M M0:Mem}{N:Fs}{Q:Exit->Act->World->Prop}{W:World}{X:List Nat}{e:Exit}
theorem AB{L':Lc}(hs:L'.Sublist L)(h:JQ N e F ⟨W,X,M0⟩ M L' Q):JQ N e F ⟨W,X,M0⟩ M L Q:=λa w c b=>h a w c (b.fewer hs)
variable{E:Ent}{P:Program}{fn:Func}{post:Value->Mem->Lc->Prop}
theorem YU(h:JQ N .ret F E M L (Bz P fn E post)):JQ N .normal F E M L (Bz P fn E post):=h
def ZY(k:IntKind)(a b:Int):Int:=k.wrap (BitVec.ofInt k.bits a &&& BitVec.ofInt k.bits b).toNat
def ND(k:IntKind)(a b:Int):Int:=k.wrap (BitVec.ofInt k.bits a ||| BitVec.ofInt k.bits b).toNat
def U2(k:IntKind)(a b:Int):Int:=k.wrap (BitVec.ofInt k.bits a ^^^ BitVec.ofInt k.bits b).toNat
def wXs(op:BinOp)(k:IntKind)(a b:Int):Option Int:=match op with
 |.and=>some (ZY k a b)
 |.or=>some (ND k a b)
 |.xor=>some (U2 k a b)
 |_=>none
def MK(k:IntKind)(a:Int)(n:Nat):Int:=k.wrap (a*2 ^ (min n k.bits))
def D6(k:IntKind)(a:Int)(n:Nat):Int:=a.fdiv (2 ^ (min n k.bits))
def shOp(op:BinOp)(k:IntKind)(a:Int)(n:Nat):Option Int:=match op with
 |.shl=>some (MK k a n)
 |.shr=>some (D6 k a n)
 |_=>none
section
variable{P:Program}{ops:Array Oper}{N:Fs}{F:Fr}{E:Ent}{M:Mem}{L:Lc}{o:Oper}
theorem EW{d:BinOp}{g f:TypeId}{x y:Operand}{k:IntKind}{a b r:Int}(l:gd ops F o=some true)(j:o.op=.binOp d g x y f)(i:ev F x=some (.int k a))(h:ev F y=some (.int k b))
  (c:wXs d k a b=some r):QF P ops N F M L o (.int k r):=Bv l λm e w _=>by
 simp only[execOp,j,e.ev i,e.ev h]
 unfold wXs at c
 split at c<;>first|cases c|skip
 all_goals simp[eqGuard,binOp,Op.intBits,ZY,ND,U2]
theorem DR{d:BinOp}{g f:TypeId}{x y:Operand}{k h:IntKind}{a b r:Int}(m:gd ops F o=some true)(l:o.op=.binOp d g x y f)(j:ev F x=some (.int k a))(i:ev F y=some (.int h b))
  (s:0<=b) (c:shOp d k a b.toNat=some r):QF P ops N F M L o (.int k r):=Bv m λu e w _=>by
 have n:¬b<0:=by omega
 simp only[execOp,l,e.ev j,e.ev i]
 unfold shOp at c
 split at c<;>first|cases c|skip
 all_goals simp[eqGuard,binOp,Op.shift,n,MK,D6]
theorem qNotI{b:TypeId}{x:Operand}{a:Int}(e:gd ops F o=some true)(d:o.op=.unOp .xor b x)(c:ev F x=some (.int .u32 a)):QF P ops N F M L o (.int .u32 (U2 .u32 4294967295 a)):=Bv e λg f w _=>by
 simp only[execOp,d,f.ev c]
 simp[Op.unary,Op.intBits,U2,IntKind.signed,IntKind.max,IntKind.bits]
theorem wTr{d:BinOp}{g f:TypeId}{x y:Operand}{k:IntKind}{a b r:Int}(m:gd ops F o=some true)(l:o.op=.binOp d g x y f)(j:ev F x=some (.int k a))(i:ev F y=some (.int k b))
  (c:ar d a b=some r) (h:k.wrap r=r):QF P ops N F M L o (.int k r):=Bv m λn e w _=>by
 simp only[execOp,l,e.ev j,e.ev i]
 unfold ar at c
 split at c<;>first|cases c|skip
 all_goals simp[eqGuard,binOp,Op.intArith,h]
theorem ED{x:Operand}{s d:TypeId}{k a:IntKind}{n:Int}{ds:TypeDesc}(e:gd ops F o=some true)(c:o.op=.convert s d x)(b:ev F x=some (.int a n))[hs:Und P s ds][f:Und P d (.int k)](h:k.wrap n=n)
  :QF P ops N F M L o (.int k n):=Bh (Bn e c b) (by rw[h])
theorem BY{x:Operand}{a:Addr}(d:gd ops F o=some true)(c:o.op=.nilCheck x)(b:ev F x=some (.pointer (some a))):QF P ops N F M L o (.pointer (some a)):=Bv d λf e w _=>by
 simp[execOp,c,e.ev b]
theorem Ao{t:TypeId}{x y:Operand}{u:Value}{b off:Nat}{l g cs:List Value}{e:TypeId}{L':Lc}{c d:Nat}{z:List Value}(n:gd ops F o=some true)(k:o.op=.store t x y)(i:ev F x=some (.pointer (some ⟨b,off,none⟩)))(h:ev F y=some u)
  [H:Lay P t c d z] (s:u.cells=cs.toArray) (m:cs.length=c) (B:(cs.all λv=>v.oneCell')=true) [C:At b (.cells l.toArray e (0,0)) L] (a:Nat.ble (off+c) l.length=true) (w:l.take off++cs++l.drop (off+cs.length)=g:=by first|(simp only[Nat.reduceAdd,Nat.zero_add,Nat.add_zero,List.drop_succ_cons,List.drop_zero,List.drop_nil,List.take_succ_cons,List.take_zero,List.take_nil,List.cons_append,List.nil_append,List.append_nil,List.length_cons,List.length_nil];try rfl)|rfl)
  [G:PutAt b (.cells l.toArray e (0,0)) (.cells g.toArray e (0,0)) L L']:
  HF P ops N F E M L o (λ_ D f=>M=D/\f=L'):=by
 subst w;exact Ns n k i h s m (λv j=>List.all_eq_true.1 B v j) (Nat.le_of_ble_eq_true a)
theorem HO{x:Operand}{t:TypeId}{d:TypeDesc}{b off f g:Nat}{z l cs:List Value}{e:TypeId}{fz:Nat×Nat}(m:gd ops F o=some true)(k:o.op=.load t x)(j:ev F x=some (.pointer (some ⟨b,off,none⟩)))[w:Und P t d][u:Lay P t f g z](n:HR d=true)
  [s:At b (.cells l.toArray e fz) L] (a:Nat.ble (off+f) l.length=true) (h:(l.drop off).take f=cs:=by first|(simp only[Nat.reduceAdd,Nat.zero_add,Nat.add_zero,List.drop_succ_cons,List.drop_zero,List.drop_nil,List.take_succ_cons,List.take_zero,List.take_nil,List.cons_append,List.nil_append,List.append_nil,List.length_cons,List.length_nil];try rfl)|rfl):QF P ops N F M L o (.agg cs.toArray):=
 A1 m k j n (by subst h;have:=Nat.le_of_ble_eq_true a;rw[List.length_take,List.length_drop];omega) λi v c=>by
  subst h
  rw[List.getElem?_take]at c
  split at c
  ·exact CJ.loc (by simpa using c)
  cases c
end
inductive RV (P:Program) (F:Fr) (L:Lc):ResultVar->Value->Prop
 |tmp {t:Nat} {v:Value} (h:lk t F=some v):RV P F L (.tmp t) v
 |agg {t b sz by_:Nat} {ty e:TypeId} {l:List Value} {fz:Nat×Nat} {d:TypeDesc} {z:List Value} (ht:lk t F=some (.pointer (some ⟨b,0,none⟩))) [at_:At b (.cells l.toArray e fz) L] [hd:Und P ty d] [hl:Lay P ty sz by_ z] (ha:HR d=true) (hn:l.length=sz):RV P F L (.cell t ty) (.agg l.toArray)
 |one {t b:Nat} {ty e:TypeId} {l:List Value} {fz:Nat×Nat} {d:TypeDesc} {v:Value} (ht:lk t F=some (.pointer (some ⟨b,0,none⟩))) [at_:At b (.cells l.toArray e fz) L] [hd:Und P ty d] (ha:HR d=false) (hv:l[0]? =some v):RV P F L (.cell t ty) v
inductive RVs (P:Program) (F:Fr) (L:Lc):List ResultVar->List Value->Prop
 |nil:RVs P F L [] []
 |cons {r:ResultVar} {v:Value} {rs:List ResultVar} {vs:List Value} (h:RV P F L r v) (k:RVs P F L rs vs):RVs P F L (r::rs) (v::vs)
def wKs:List Value->Value
 |[v]=>v
 |vs=>.tuple vs.toArray
def KN(tmps:Array Value):ResultVar->Sem Value
 |.tmp t=>pure (tmps.getD t undef)
 |.cell c t=>do loadVar t (<-asAddr (tmps.getD c undef))
theorem Yo(c:Func)(b:Array Value):results c b=(do let vs <-c.results.mapM (KN b);pure (if h:vs.size=1 then vs[0]else .tuple vs)):=by
 unfold results;have:(λr:ResultVar=>match r with|.tmp t=>(pure (b.getD t undef):Sem Value)|.cell a t=>do loadVar t (<-asAddr (b.getD a undef)))=KN b:=by
  funext r;cases r<;>rfl
 rw[<-this];rfl
variable{a:Act}{w:World}
theorem RV.run{r:ResultVar}{v:Value}(h:RV P F L r v)(c:Has N F a)(y:St E M L w):(KN a.tmps r).run P w=.ok v w:=by
 cases h with
 |tmp h=>simp[KN,Array.getD_eq_getD_getElem?,c.get _ _ h]
 |@agg t b J H B e l fz d z i u m D n C=>
  obtain⟨I,v,G,k,_⟩:=D.info
  have s:=c.get t _ i
  have f:∀j,(⟨b,0,none⟩:Addr).add j=⟨b,j,none⟩:=λj=>by unfold Addr.add;split<;>simp_all
  have o:=run_loadCells_list (P:=P) (w:=w) ⟨b,0,none⟩ l (λj v g=>by rw[f];exact(CJ.loc (M:=M) (L:=L) (e:=e) (fz:=fz) g).cell y.js)
  simp[KN,Array.getD_eq_getD_getElem?,s,asAddr,loadVar,C1 m.h,n,sizeOf,typeInfo,G,k,<-C,o]
 |@one t b B e l fz d v i u m n g=>
  have s:=c.get t _ i
  have o:=(CJ.loc (M:=M) (L:=L) (b:=b) (e:=e) (fz:=fz) g).cell y.js
  simp[KN,Array.getD_eq_getD_getElem?,s,asAddr,loadVar,C1 m.h,n,o]
theorem RVs.run(b:Has N F a)(c:St E M L w):∀{rs:List ResultVar}{vs:List Value},RVs P F L rs vs->
  (rs.mapM (KN a.tmps)).run P w=.ok vs w
 |[],_,.nil=>by simp
 |r::rs,_,.cons h k=>by
  have e:=h.run b c;have d:=RVs.run b c k;simp_all
variable{n:Nat}{rs:List ResultVar}{vs:List Value}
theorem Pi(d:fn.results=rs.toArray)(h:RVs P F L rs vs)(f:post (wKs vs) M L):JQ ⟨n,[],none⟩ .ret F E M L (Bz P fn E post):=by
 intro a w b c;show LeavesInM _ _ _ _ _ _ a.defers _ _;rw[show a.defers=[]from b.defers];have i:=h.run b c;refine⟨_,?_,_,M,L,rfl,f,c⟩;rw[Yo,d,Sem.run_bind,List.mapM_toArray,Sem.run_map,i];unfold wKs;split
 ·simp_all
 rename_i g;have:vs.length≠1:=λe=>by
  match vs,e with
  |[v],_=>exact g v rfl
 simp_all
theorem jrsd(L':Lc)(hs:L'.Sublist L)(s:fn.results=rs.toArray)(h:RVs P F L rs vs)(u:post (wKs vs) M L'):JQ ⟨n,[],none⟩ .ret F ⟨W,X,M0⟩ M L (Bz P fn ⟨W,X,M0⟩ post):=by
 have:=Pi (P:=P) (n:=n) (E:=⟨W,X,M0⟩) (M:=M) (post:=λv c b=>post v c L'/\L'.Sublist b) s h ⟨u,hs⟩;intro a w f m;have k:=this a w f m;show LeavesInM _ _ _ _ _ _ a.defers _ _;have d:LeavesInM _ _ _ _ _ _ a.defers _ _:=k;rw[show a.defers=[]from f.defers]at d⊢;obtain⟨v,o,g,c,b,e,⟨l,j⟩,i⟩:=d;exact⟨v,o,g,c,L',e,l,i.fewer j⟩
variable{D:List Deferred}{c:Code}
theorem QN(h:JC P ⟨n,D,none⟩ c F E M L (Exit.noGoto Q)):JC P ⟨n,D,none⟩ (.scope c) F E M L Q:=λa w d b=>
 (wpIn_wide (n:=0)).2 (wp_scope_straight ((wpIn_wide (n:=0)).1 (h a w d b)))
theorem jN(c:∀l,e≠.goto l)(h:JQ N e F E M L Q):JQ N e F E M L (Exit.noGoto Q):=λa w d b=>by
 cases e<;>first|exact absurd rfl (c _)|exact h a w d b
abbrev By:=UInt8
def Aa(xs:List By):List Value:=xs.map λb=>.int .u8 (b.toNat:Int)
theorem Ad(xs:List By):(Aa xs).length=xs.length:=by simp[Aa]
theorem BM(xs:List By):∀v∈Aa xs,v.oneCell'=true:=by
 intro v a;obtain⟨n,_,rfl⟩:=List.mem_map.1 a;rfl
def BS(M:Mem)(v:Value)(xs:List By):Prop:=∃a c,v=.slice a xs.length c/\xs.length<=c/\SM M a (Aa xs)
variable{xs:List By}
theorem BS.mono{M':Mem}{v:Value}(h:BS M v xs)(b:MLe M M'):BS M' v xs:=by
 obtain⟨a,c,e,f,d⟩:=h;exact⟨a,c,e,f,d.mono b⟩
theorem BS.nil:BS M (.slice none 0 0) []:=⟨none,0,rfl,Nat.le_refl _,SM.nil⟩
section
variable{P:Program}{ops:Array Oper}{N:Fs}{F:Fr}{E:Ent}{M:Mem}{L:Lc}{Q:Exit->Act->World->Prop}
def XM:Option Value->Option (Nat×Nat)
 |some (.pointer (some ⟨b,off,none⟩))=>some (b,off)
 |_=>none
theorem RW{v:Option Value}{b off:Nat}(h:XM v=some (b,off)):v=some (.pointer (some ⟨b,off,none⟩)):=by
 unfold XM at h;split at h
 ·cases h;rfl
 cases h
def wDp(ops:Array Oper)(F:Fr)(o:Oper):Option (TypeId×Nat×Nat×Value):=match gd ops F o,o.dst,o.op with
 |some true,none,.store t x y=>match XM (ev F x),ev F y with
  |some (b,off),some u=>some (t,b,off,u)
  |_,_=>none
 |_,_,_=>none
theorem Pt{o:Oper}{t:TypeId}{b off:Nat}{u:Value}(h:wDp ops F o=some (t,b,off,u)):∃x y,o.dst=none/\gd ops F o=some true/\o.op=.store t x y/\ev F x=some (.pointer (some ⟨b,off,none⟩))/\ev F y=some u:=by
 unfold wDp at h;split at h
 ·rename_i g x y f e d;split at h
  ·rename_i c a;cases h;exact⟨x,y,e,f,d,RW c,a⟩
  cases h
 cases h
theorem sSt{o:Oper}{a:List Oper}{t:TypeId}{u:Value}{b off:Nat}{l j cs:List Value}{e:TypeId}{L':Lc}{d i:Nat}{z:List Value}(h:wDp ops F o=some (t,b,off,u))(k:JL P ops N Q a F E M L')
  [I:Lay P t d i z] (D:u.cells=cs.toArray:=by rfl) (w:cs.length=d:=by rfl) (g:(cs.all λv=>v.oneCell')=true:=by rfl) [G:At b (.cells l.toArray e (0,0)) L] (c:Nat.ble (off+d) l.length=true:=by rfl) (f:l.take off++cs++l.drop (off+cs.length)=j:=by first|(simp only[Nat.reduceAdd,Nat.zero_add,Nat.add_zero,List.drop_succ_cons,List.drop_zero,List.drop_nil,List.take_succ_cons,List.take_zero,List.take_nil,List.cons_append,List.nil_append,List.append_nil,List.length_cons,List.length_nil];try rfl)|rfl)
  [H:PutAt b (.cells l.toArray e (0,0)) (.cells j.toArray e (0,0)) L L']:JL P ops N Q (o::a) F E M L:=by
 obtain⟨x,y,C,B,s,n,m⟩:=Pt h;exact DE C (Ao B s n m D w g c f) λ_ _ _ ⟨g,f⟩=>by subst g;subst f;exact k
def wKj(N:Fs)(ops:Array Oper)(F:Fr)(o:Oper):Option (Nat×TypeId×Nat×Nat×Nat):=match gd ops F o,o.dst,o.op with
 |some true,some d,.fieldAddr s x i=>match Nat.blt d N.n,XM (ev F x)with
  |true,some (b,off)=>some (d,s,i,b,off)
  |_,_=>none
 |_,_,_=>none
theorem TU{o:Oper}{d:Nat}{s:TypeId}{i b off:Nat}(h:wKj N ops F o=some (d,s,i,b,off)):∃x,o.dst=some d/\Nat.blt d N.n=true/\gd ops F o=some true/\o.op=.fieldAddr s x i/\ev F x=some (.pointer (some ⟨b,off,none⟩)):=by
 unfold wKj at h;split at h
 ·rename_i l j x k g f e;split at h
  ·rename_i c a;cases h;exact⟨x,f,c,g,e,RW a⟩
  cases h
 cases h
theorem sFa{o:Oper}{a:List Oper}{d:Nat}{s:TypeId}{i l:Nat}{j:TypeId}{g f:Nat}{z:List Value}{b off c:Nat}(h:wKj N ops F o=some (d,s,i,b,off))(k:JL P ops N Q a ((d,.pointer (some ⟨b,c,none⟩))::F) E M L)[D:Fld P s i l j][C:Lay P j g f z]
  (m:Nat.beq g 0=false:=by rfl) (e:off+l=c:=by rfl):JL P ops N Q (o::a) F E M L:=by
 obtain⟨x,y,B,w,u,n⟩:=TU h;exact A2 y B (Ac w u n m e) k
def Vu(N:Fs)(ops:Array Oper)(F:Fr)(o:Oper):Option (Nat×TypeId×Nat×Nat):=match gd ops F o,o.dst,o.op with
 |some true,some d,.load t x=>match Nat.blt d N.n,XM (ev F x)with
  |true,some (b,off)=>some (d,t,b,off)
  |_,_=>none
 |_,_,_=>none
theorem Lv{o:Oper}{d:Nat}{t:TypeId}{b off:Nat}(h:Vu N ops F o=some (d,t,b,off)):∃x,o.dst=some d/\Nat.blt d N.n=true/\gd ops F o=some true/\o.op=.load t x/\ev F x=some (.pointer (some ⟨b,off,none⟩)):=by
 unfold Vu at h;split at h
 ·rename_i j i x g f e;split at h
  ·rename_i c a;cases h;exact⟨x,f,c,g,e,RW a⟩
  cases h
 cases h
theorem sLd{o:Oper}{a:List Oper}{d:Nat}{t:TypeId}{c:TypeDesc}{b off:Nat}{v:Value}{l:List Value}{e:TypeId}{fz:Nat×Nat}(h:Vu N ops F o=some (d,t,b,off))(k:JL P ops N Q a ((d,v)::F) E M L)[w:Und P t c](n:HR c=false:=by rfl)[u:At b (.cells l.toArray e fz) L](m:l[off]? =some v:=by rfl):JL P ops N Q (o::a) F E M L:=by
 obtain⟨x,j,s,i,g,f⟩:=Lv h;exact A2 j s (Au i g f n (CJ.loc m)) k
theorem sLL{o:Oper}{a:List Oper}{d:Nat}{t:TypeId}{i:TypeDesc}{b off f g:Nat}{z l cs:List Value}{e:TypeId}{fz:Nat×Nat}(h:Vu N ops F o=some (d,t,b,off))(k:JL P ops N Q a ((d,.agg cs.toArray)::F) E M L)[C:Und P t i][D:Lay P t f g z](w:HR i=true:=by rfl)
  [B:At b (.cells l.toArray e fz) L] (c:Nat.ble (off+f) l.length=true:=by rfl) (u:(l.drop off).take f=cs:=by first|(simp only[Nat.reduceAdd,Nat.zero_add,Nat.add_zero,List.drop_succ_cons,List.drop_zero,List.drop_nil,List.take_succ_cons,List.take_zero,List.take_nil,List.cons_append,List.nil_append,List.append_nil,List.length_cons,List.length_nil];try rfl)|rfl):JL P ops N Q (o::a) F E M L:=by
 obtain⟨x,s,y,n,m,j⟩:=Lv h;exact A2 s y (HO n m j w c u) k
def wYd(N:Fs)(ops:Array Oper)(F:Fr)(o:Oper):Option (Nat×TypeId):=match gd ops F o,o.dst,o.op with
 |some true,some d,.alloc t=>match Nat.blt d N.n with
  |true=>some (d,t)
  |_=>none
 |_,_,_=>none
theorem wTa{o:Oper}{d:Nat}{t:TypeId}(h:wYd N ops F o=some (d,t)):o.dst=some d/\Nat.blt d N.n=true/\gd ops F o=some true/\o.op=.alloc t:=by
 unfold wYd at h;split at h
 ·rename_i g f e c b;split at h
  ·rename_i a;cases h;exact⟨c,a,e,b⟩
  cases h
 cases h
theorem sAl{o:Oper}{a:List Oper}{d:Nat}{t:TypeId}{e c:Nat}{z:List Value}(h:wYd N ops F o=some (d,t))[s:Lay P t e c z](k:∀b,JL P ops N Q a ((d,.pointer (some ⟨b,0,none⟩))::F) E M ((b,.cells z.toArray t (0,0))::L)):JL P ops N Q (o::a) F E M L:=by
 obtain⟨i,j,g,f⟩:=wTa h;exact Ee i j (AX g f) λv u w ⟨b,n,m,l⟩=>by subst n;subst m;subst l;exact k b
variable{Mi Mw:Mem}{Li Lw:Lc}{p:Ph}
theorem dLd{j:Nat}{a:List (Nat×Bool)}{o:Oper}{d:Nat}{t:TypeId}{f:TypeDesc}{b off:Nat}{v:Value}{l:List Value}{e:TypeId}{fz:Nat×Nat}(i:ops[j]? =some o)(h:Vu N ops F o=some (d,t,b,off))(k:JD P ops N p Mw Lw Q a ((d,v)::F) E M L Mi Li)[C:Und P t f](u:HR f=false:=by rfl)[B:At b (.cells l.toArray e fz) Li](s:l[off]? =some v:=by rfl)(z:p.A j=true:=by rfl)(w:p.U j=true:=by rfl):JD P ops N p Mw Lw Q ((j,true)::a) F E M L Mi Li:=by
 obtain⟨x,n,y,m,c,g⟩:=Lv h;exact Ch i n y (Au m c g u (CJ.loc s)) k z w
theorem dLL{j:Nat}{a:List (Nat×Bool)}{o:Oper}{d:Nat}{t:TypeId}{m:TypeDesc}{b off f i:Nat}{z l cs:List Value}{e:TypeId}{fz:Nat×Nat}(s:ops[j]? =some o)(h:Vu N ops F o=some (d,t,b,off))(k:JD P ops N p Mw Lw Q a ((d,.agg cs.toArray)::F) E M L Mi Li)[I:Und P t m][J:Lay P t f i z](B:HR m=true:=by rfl)
  [H:At b (.cells l.toArray e fz) Li] (c:Nat.ble (off+f) l.length=true:=by rfl) (y:(l.drop off).take f=cs:=by first|(simp only[Nat.reduceAdd,Nat.zero_add,Nat.add_zero,List.drop_succ_cons,List.drop_zero,List.drop_nil,List.take_succ_cons,List.take_zero,List.take_nil,List.cons_append,List.nil_append,List.append_nil,List.length_cons,List.length_nil];try rfl)|rfl) (G:p.A j=true:=by rfl) (C:p.U j=true:=by rfl):JD P ops N p Mw Lw Q ((j,true)::a) F E M L Mi Li:=by
 obtain⟨x,w,D,u,g,n⟩:=Lv h;exact Ch s w D (HO u g n B c y) k G C
end
end Go.Proofs.YtjheijhahehnmaaGreatDoor
