/- Lemmas. -/
import Derived.Test.YtjheijhahehnmaaGreatDoorXFc
namespace Go.Proofs.YtjheijhahehnmaaGreatDoor
open Go.Proofs.Tryz
open List (range map_cons sum_cons foldl_cons cons_append append_assoc)
set_option linter.unusedSimpArgs false
set_option linter.unusedVariables false
set_option linter.unusedSectionVars false
set_option maxHeartbeats 40000000
set_option maxRecDepth 8000
open Go.RowKit
structure PW(M:Mem)(x:V5)(p:Po):Prop where
 pt:PT5 M x p
 dead:p.dead.length<=1000000
 next:0<=p.next/\p.next<4294967296
variable{M M':Mem}
theorem PW.mono{x:V5}{p:Po}(h:PW M x p)(a:MLe M M'):PW M' x p:=⟨h.pt.mono a,h.dead,h.next⟩
def Rs{α:Type}(r:Option α)(e:Int)(P:α->Prop):Prop:=(e≠0/\r=none)\/(e=0/\∃a,r=some a/\P a)
variable{e:Int}{α:Type}{P:α->Prop}
theorem Rs.err{r:Option α}(h:Rs r e P)(a:e≠0):r=none:=h.elim (·.2) λh=>aD h.1 a
theorem Rs.val{r:Option α}(h:Rs r e P)(b:¬e≠0):e=0/\∃a,r=some a/\P a:=h.elim (λh=>aD h.1 b) id
theorem Rs.no{r:Option α}(a:e≠0)(h:r=none):Rs r e P:=.inl ⟨a,h⟩
theorem Rs.yes{r:Option α}(a:α)(h:r=some a)(b:P a):Rs r 0 P:=.inr ⟨rfl,a,h,b⟩
def PoR(r:Option Po)(u:Value)(M':Mem):Prop:=∃(y:V5)(g r1 n e:Int),u=.tuple #[.agg (Bk y g r1 n).toArray,iL e]/\Rs r e λq=>PW M' y q/\g=q.gen/\r1=q.root/\n=q.next
variable{u:Value}
theorem PoP.r{r:Except Int Po}(h:PoP r u M')(hk:∀q,r=.ok q->q.dead.length<=1000000/\0<=q.next/\q.next<4294967296):PoR r.toOption u M':=by
 obtain⟨y,g,a,n,e,rfl,f⟩:=h.q;refine⟨y,g,a,n,e,rfl,?_⟩;rcases f with⟨j,rfl⟩|⟨rfl,q,rfl,d,i⟩
 ·exact .no j rfl
 obtain⟨c,b⟩:=hk q rfl;exact .yes q rfl ⟨⟨d,c,b⟩,i⟩
theorem wRb{p q:Po}{v:Vo}(h:Ej p v=.ok q):q.dead=p.dead/\q.next=p.next:=by
 unfold Ej at h;split at h
 ·split at h
  ·cases h
  split at h
  ·cases h;exact⟨rfl,rfl⟩
  cases h
 cases h
variable{f:Sto->Except Int (Sto×Int)}
theorem wNe{p r:Po}{v:Vo}(h:PJ (DD p v f)=.ok r):r.dead=p.dead/\r.next=p.next:=by
 have h:=PI h;unfold DD TU at h;split at h
 ·cases h
 unfold YO at h;split at h
 ·cases h
 unfold wXr at h;split at h
 ·cases h
 rename_i q a;have:=wRb a;unfold Xy at h;split at h
 ·cases h
 cases h;exact this
theorem wPm{p r:Po}{q:Int}{x:It}(h:Hy p q x=.ok r):r.dead=p.dead/\r.next=p.next:=by
 unfold Hy at h;split at h
 ·split at h
  ·split at h
   ·cases h
   exact wNe h
  cases h
 cases h
variable{k:Ky}
theorem wPq{p r:Po}{q:Int}(h:Nj p q k=.ok r):r.dead=p.dead/\r.next=p.next:=by
 unfold Nj at h;split at h
 ·exact wNe h
 cases h
theorem Zw{p r:Po}{x:V5}(h:PW M x p)(a:r.dead=p.dead/\r.next=p.next):r.dead.length<=1000000/\0<=r.next/\r.next<4294967296:=by rw[a.1,a.2];exact⟨h.dead,h.next⟩
theorem GH(p:Po)(x:V5)(M:Mem)(h:PW M x p)(q:Int)(e:0<=q/\q<4294967296)(a:It)(b:Value)(d:BS M b a.val)(hk:Bh a.key):
  Sg 174 #[.agg (Bk x p.gen p.root p.next).toArray,iU q,.agg #[iB a.key.kind,iU a.key.id,iU a.key.off,iL a.ref,b]] M [] λu M' g=>PoR (EC p q a) u M'/\g=[]:=
 (wAh p x M h.pt h.dead q e a b d hk).mono λ_ _ _ c=>⟨c.1.r λ_ f=>Zw h (wPm f),c.2⟩
theorem Na(p:Po)(x:V5)(M:Mem)(h:PW M x p)(q:Int)(b:0<=q/\q<4294967296)(k:Ky):
  Sg 285 #[.agg (Bk x p.gen p.root p.next).toArray,iU q,.agg (Az k).toArray] M [] λu M' d=>PoR (Pu p q k) u M'/\d=[]:=
 (wAm p x M h.pt h.dead q b k).mono λ_ _ _ a=>⟨a.1.r λ_ c=>Zw h (wPq c),a.2⟩
structure Pc where
 blk:Int
 fr:Int
 to:Int
def QX(a n:Int)(k:Nat):List Pc:=if max (a-k*128) 0<min (a+n-k*128) 128 then [⟨k,max (a-k*128) 0,min (a+n-k*128) 128⟩]else []
def EQ(a n:Int)(m:Nat):List Pc:=(range m).flatMap (QX a n)
def Ht(a n:Int):Option (List Pc):=if a<0\/4096<a\/n<0\/4096-a<n then none else some (EQ a n 32)
def Ug(x:Pc):Int:=if x.blk<0\/32<=x.blk\/x.fr<0\/x.to<=x.fr\/128<x.to then 8 else 0
def Hv(b:List By):Option (List By):=if b.length=0 then some (List.replicate 128 0)else if b.length=128 then some b else none
def VV(b:List By)(x:Pc):Option (List By):=(Hv b).bind λb=>if Ug x=0 then some ((b.drop x.fr.toNat).take (x.to-x.fr).toNat)else none
def U2(b:List By)(x:Pc)(d:List By):Option (List By):=(Hv b).bind λb=>if Ug x=0/\(d.length:Int)=x.to-x.fr then some (b.take x.fr.toNat++d++b.drop x.to.toNat)else none
def Ea(n:Int):Prop:=0<=n/\n<=4096
instance(n:Int):Decidable (Ea n):=by unfold Ea;exact inferInstance
def Hp(p:Po)(v id:Int):Option Ino:=(C4 p v id).bind λx=>if x.dir then none else some x
def Hj(p:Po)(v id:Int)(f:Ino->Option (Po×Int)):Option Po:=(Hp p v id).bind λx=>
 if BQ p v=0/\(As p v).frz=false then (f x).bind λq=>if x.size<q.2 then Fz q.1 v { x with size:=q.2 } else some q.1 else none
def Sa(p:Po)(v id:Int)(a:Option (List By))(x:Pc):Option (List By):=a.bind λo=>(EW p v id x.blk).bind λb=>(VV b x).map λc=>o++c
def MU(p:Po)(v id a n:Int):Option (List By):=if Ea a/\Ea n then (Hp p v id).bind λx=>(Ht (min a x.size) (min n (x.size-min a x.size))).bind λl=>l.foldl (Sa p v id) (some [])else none
def LH(v id:Int)(a:Option (Po×List By))(x:Pc):Option (Po×List By):=a.bind λo=>(EW o.1 v id x.blk).bind λb=>(U2 b x (o.2.take (x.to-x.fr).toNat)).bind λc=>(D5 o.1 v id x.blk c).map λq=>(q,o.2.drop (x.to-x.fr).toNat)
def FY(p:Po)(v id a:Int)(d:List By):Option Po:=(Ht a d.length).bind λl=>Hj p v id λ_=>if d=[]then some (p,0)else (l.foldl (LH v id) (some (p,d))).map λo=>(o.1,a+d.length)
def Ge(p:Po)(v id:Int)(x:Pc)(always:Bool):Option Po:=(EW p v id x.blk).bind λb=>
 if always=false/\((b.drop x.fr.toNat).take (x.to-x.fr).toNat).all (· =0)then some p else (U2 b x (List.replicate (x.to-x.fr).toNat 0)).bind λc=>D5 p v id x.blk c
def wMv(v id:Int)(refs:List Int)(a:Option Po)(n:Nat):Option Po:=a.bind λp=>if refs.getD n 0≠0 then FB p v id n else some p
def HA(p:Po)(v id size:Int):Option Po:=if size<0\/4096<size then none else (DI p v id).bind λrefs=>
 (((range 32).drop ((size+127) / 128).toNat).foldl (wMv v id refs) (some p)).bind λq=>
 if 0<size%128/\refs.getD (((size+127) / 128).toNat-1) 0≠0 then Ge q v id ⟨(size+127) / 128-1,size%128,128⟩ false else some q
def wCb(v id:Int)(refs:List Int)(a:Option Po)(x:Pc):Option Po:=a.bind λp=>
 if refs.getD x.blk.toNat 0=0 then some p else if x.to-x.fr=128 then FB p v id x.blk else Ge p v id x true
def RO(p:Po)(v id a b:Int):Option Po:=if a<0\/b<a then none else (Ht a (b-a)).bind λl=>(DI p v id).bind λrefs=>l.foldl (wCb v id refs) (some p)
def QH(p:Po)(v id n:Int):Option Po:=if Ea n then Hj p v id λx=>if x.size<=n then some (p,n)else (HA p v id n).bind λq=>(Fz q v { x with size:=n }).map λr=>(r,0)else none
def V3(p:Po)(v id a b:Int):Option Po:=if Ea a/\Ea b/\a<=b then Hj p v id λx=>if min b x.size<=a then some (p,0)else (RO p v id a (min b x.size)).map λr=>(r,0)else none
def wCc(p:Po)(k:Int):Option Po:=(Tn p k).toOption
def J5(a:Option Po)(k:Int):Option Po:=a.bind λp=>if k=0 then some p else wCc p k
def wCj(v id:Int)(p:Po)(b k:Int):Option Po:=if k=0 then FB p v id b else EC p v ⟨Hq id b,k,[]⟩
def Vd(v id b:Int)(a:Option (Po×Int))(k:Int):Option (Po×Int):=a.bind λo=>(wCj v id o.1 (b+o.2) k).map λq=>(q,o.2+1)
def Ho(a n:Int):Prop:=0<=a/\a<=32/\0<=n/\n<=32-a
instance(a n:Int):Decidable (Ho a n):=by unfold Ho;exact inferInstance
def K3(p:Po)(v1 i1 b:Int)(v id a n:Int):Option Po:=if Ho b n/\Ho a n then (DI p v1 i1).bind λrefs=>(DI p v id).bind λ_=>
 (((refs.drop b.toNat).take n.toNat).foldl J5 (some p)).bind λq=>(((refs.drop b.toNat).take n.toNat).foldl (Vd v id a) (some (q,0))).map (·.1)else none
def V1(p:Po)(v1 i1 b v id a n:Int):Option Po:=
 if Ea b/\Ea a/\Ea n/\Ea (b+n)/\Ea (a+n)/\b%128=0/\a%128=0/\n%128=0 then (Hp p v1 i1).bind λ_=>
 Hj p v id λ_=>if n=0 then some (p,0)else (K3 p v1 i1 (b / 128) v id (a / 128) (n / 128)).map λq=>(q,a+n)else none
def Un(p:Po)(v:Int)(a:Option Ino)(s:List By):Option Ino:=a.bind λx=>if x.dir then (Lo p v x.id s).bind λi=>C4 p v i else none
def JT(p:Po)(v:Int)(l:List (List By)):Option Ino:=if BQ p v=0 then l.foldl (Un p v) (C4 p v 1)else none
def EV(p:Po)(v id:Int)(s:List By)(same:Bool):Bool:=match LW p v id s with
 |none=>false
 |some l=>(EP l.1 s).isNone&&(decide (l.1.length<32)||same)
def Gc(p:Po)(v id:Int)(s:List By):Option Ino:=(Lo p v id s).bind λi=>C4 p v i
def Lm(p:Po)(v id:Int)(s:List By)(dir:Bool):Option (Po×Int):=if EV p v id s false then (HU p v dir).bind λq=>(Hi q.1 v id s q.2).map λr=>(r,q.2)else none
def Nz(p:Po)(v1 i1 v id:Int)(s:List By):Option Po:=(C4 p v1 i1).bind λx=>if x.dir=false/\EV p v id s false/\v1=v/\x.links<65535 then (Hi p v id s x.id).bind λq=>Fz q v1 { x with links:=x.links+1 } else none
def Tc(p:Po)(v id:Int)(s:List By):Option Po:=(Gc p v id s).bind λx=>if x.dir then none else (Ei p v id s).bind λq=>
 if 1<x.links then Fz q v { x with links:=x.links-1 } else (HA q v x.id 0).bind λr=>HV r v x.id
def UN(p:Po)(v id:Int)(s:List By):Option Po:=(Gc p v id s).bind λx=>if x.dir then (DG p v x.id).bind λl=>if l.1=[]then (Ei p v id s).bind λq=>HV q v x.id else none else none
variable{S:List Nat}
theorem Fine.moved{p:Po}{t:Sto}{i:List Nat}{hs d:List Int}(h:Fine p S hs)(hk:Oks p.st S t i ((p.root::d)++KP (AT p.st p.root)))(o:∀r∈d,(8<=r/\r<256)/\r.toNat∈S/\(AN p.st r).2=0)(n:En t i ((p.root::d)++KP (AT p.st p.root)))(m:d.length<=40):
  Fine ⟨t,p.gen,p.root,p.next,d⟩ i []:=by
 have a:p.root∈Bc p:=by rw[B7];simp
 have g:AT t p.root=AT p.st p.root:=(hk p.root (by simp) (h.ins _ a).2.1 (h.ins _ a).2.2).2.1;have c:Bc ⟨t,p.gen,p.root,p.next,d⟩=(p.root::d)++KP (AT p.st p.root):=by rw[B7];show (p.root::d)++KP (AT t p.root)=_;rw[g]
 refine⟨by rw[c];exact n,λr a=>?_,λx l=>?_,?_,m,h.next,h.gen⟩
 ·rw [c]at a;have f:(8<=r/\r<256)/\r.toNat∈S/\(AN p.st r).2=0:=by
   rcases mA a with e|e
   ·rcases List.mem_cons.1 e with rfl|e
    ·exact h.ins _ (by rw[B7];simp)
    exact o r e
   exact h.ins _ (by rw[B7];exact List.mem_append_right _ e)
  obtain⟨k,_,j⟩:=hk r a f.2.1 f.2.2;exact⟨f.1,j,by show (AN t r).2=0;rw[k];exact f.2.2⟩
 ·have b:x∈AT t p.root:=l;rw[g]at b;exact h.vol x b
 show (AT t p.root).length<=16;rw[g];exact h.few
variable{a:By}
theorem wRi{b:By}(h:Nf .u8 (a.toNat:Int) (b.toNat:Int)=0):a=0/\b=0:=by
 rw[YR]at h;exact(Le a b).1 (UInt8.toNat.inj (by have c:(0:By).toNat=0:=rfl;omega))
variable{l:List Nat}{s:Sto}
theorem wMd{k:Nat}(h:HY s 256=k::l):s.now.getD k 0=0/\s.last.getD k 0=0:=by
 have b:k∈HY s 256:=by rw[h];simp
 unfold HY at b;have a:=(List.mem_filter.1 b).2;unfold NV at a;rw[Bool.and_eq_true]at a;exact wRi (oT a.2)
variable{d:List By}{k:Int}
theorem wGn{t:Sto}(h:HB s d=.ok (t,k)):∃n:Nat,k=(n:Int)/\(8<=n/\n<256)/\s.now.getD n 0=0/\s.last.getD n 0=0/\s.waits.length≠4096/\Au s/\t=⟨s.blocks,s.waits++[((n:Int),d)],s.now.set n 1,s.last⟩:=by
 unfold HB at h;split at h
 ·rename_i hs;cases a:HY s 256 with
  |nil=>rw[a]at h;cases h
  |cons j l=>
   rw[a]at h
   by_cases b:s.waits.length=4096
   ·rw [show wBa s d (j::l)=.error 9 from iP b]at h;cases h
   rw[show wBa s d (j::l)=.ok (⟨s.blocks,s.waits++[((j:Int),d)],s.now.set j 1,s.last⟩,(j:Int))from iN b]at h
   cases h
   obtain⟨e,c⟩:=wMd a
   exact⟨j,rfl,TH a,e,c,b,hs,rfl⟩
 cases h
theorem WN{a:Nat}(h:Ag s a=none)(k:Int):wS s (S.filter (· ≠a)) k=wS s S k:=by
 unfold wS;induction S with
 |nil=>rfl
 |cons n S b=>
  by_cases e:n=a
  ·rw [List.filter_cons_of_neg (by simp[e]),b,map_cons,sum_cons,e,EG h];simp
  rw[List.filter_cons_of_pos (by simp[e]),map_cons,sum_cons,b,map_cons,sum_cons]
theorem Tw{k n:Nat}(e:n≠k):Ag ⟨s.blocks,s.waits++[((k:Int),d)],s.now.set k 1,s.last⟩ n=Ag s n:=by
 unfold Ag;have b:(s.now.set k 1).getD n 0=s.now.getD n 0:=AJ e;have a:seen ⟨s.blocks,s.waits++[((k:Int),d)],s.now.set k 1,s.last⟩ n=seen s n:=by
  rw[seenW,iN (by show (k:Int)≠(n:Int);omega)];rfl
 rw[a];show (if (s.now.set k 1).getD n 0=0 then _ else _)=_;rw[b]
theorem Fine.lay{p:Po}{t:Sto}(h:Fine p S [])(N:d.length=128)(L:HB p.st d=.ok (t,k)):∃J,Fine (ES p t) J [k]/\k.toNat∉J:=by
 obtain⟨n,rfl,M,G,V,K,s,rfl⟩:=wGn L;have U:p.st.now.length=256:=s.2.1.1;have c:Ag p.st n=none:=by unfold Ag;rw[iP G]
 have f:En p.st S (Bc p):=h.en;have i:ExtB p.st ⟨p.st.blocks,p.st.waits++[((n:Int),d)],p.st.now.set n 1,p.st.last⟩:=by
  refine⟨λm r a=>?_,λm a=>?_⟩
  ·rw [Tw (λe=>by rw[e,c]at a;cases a)];exact a
  show ¬(p.st.now.set n 1).getD m 0=0;rw[AJ (λe=>a (by rw[e];exact G))];exact a
 have g:Sub p.st S (S.filter (· ≠n)):=λm a B=>List.mem_filter.2 ⟨a,by simpa using λe=>B (by rw[e];exact c)⟩;have b:∀m∈S.filter (· ≠n),m≠n/\m∈S:=λm a=>⟨by simpa using (List.mem_filter.1 a).2,(List.mem_filter.1 a).1⟩;have l:En ⟨p.st.blocks,p.st.waits++[((n:Int),d)],p.st.now.set n 1,p.st.last⟩ (S.filter (· ≠n)) ((n:Int)::Bc p):=by
  refine⟨W0 s M N K,f.nodup.filter _,λj Q u=>?_,λm a w o x z y C=>?_,λm a lv w o D x z=>?_⟩
  ·have R:wS ⟨p.st.blocks,p.st.waits++[((n:Int),d)],p.st.now.set n 1,p.st.last⟩ (S.filter (· ≠n)) j=wS p.st S j:=by
    rw[<-WN c j];exact Tf λm a=>by unfold Bu;rw[Tw (b m a).1]
   have H:=f.enough j Q u;rw[R];show _=((p.st.now.set n 1).getD j.toNat 0).toNat;by_cases e:j=(n:Int)
   ·subst e;rw[tN,G]at H;have P:(0:By).toNat=0:=rfl;have O:(1:By).toNat=1:=rfl;rw[tN,A5 (by omega),List.count_cons_self];omega
   rw[AJ (by omega),List.count_cons_of_ne (Ne.symm e)];exact H
  ·obtain ⟨F,E⟩:=b m a;rw[Tw F]at o;exact f.disj m E w o x z y (b _ C).2
  obtain⟨F,E⟩:=b m a;rw[Tw F]at o;obtain⟨T,zs,I⟩:=f.closed m E lv w o D x z;exact⟨g _ T (by rw[I];simp),zs,i.nd _ _ I⟩
 refine⟨S.filter (· ≠n),(h.move ((Kp.ext i g).oks l.ok) (hs':=[(n:Int)]) l).1,λa=>?_⟩;rw[tN]at a;exact(b n a).1 rfl
variable{lv:Int}
theorem ZW{d:List Int}:∀{xs:List It},xs.foldl (RX lv false) (.ok (s,d))=.ok (s,d)
 |[]=>rfl
 |x::xs=>by rw[foldl_cons,show RX lv false (.ok (s,d)) x=.ok (s,d)from rfl];exact ZW
theorem ZV(a:0<lv):∀{xs:List It}{s:Sto}{d:List Int},(∀x∈xs,x.ref≠0)->xs.foldl (RX lv true) (.ok (s,d))=.ok (s,d++xs.map (·.ref))
 |[],s,d,_=>by simp
 |x::xs,s,d,h=>by
  have c:=h x (by simp);rw[foldl_cons,show RX lv true (.ok (s,d)) x=.ok (s,d++[x.ref])from (iN λe=>e.elim (λe=>by cases e) c).trans (iP a),ZV a λy b=>h y (by simp[b])];simp
variable{R:List Int}
theorem MW:∀{xs:List It}{s u:Sto}{d b:List Int},En s S (xs.map (·.ref)++R)->(∀x∈xs,x.ref=0\/(8<=x.ref/\x.ref<256)/\x.ref.toNat∉S)->xs.foldl (RX 0 true) (.ok (s,d))=.ok (u,b)->b=d/\En u S R/\Thin s u
 |[],s,u,d,b,a,_,h=>by cases h;exact⟨rfl,a,Thin.refl s⟩
 |x::xs,s,u,d,b,a,f,h=>by
  rw[foldl_cons]at h;by_cases l:x.ref=0
  ·rw [show RX 0 true (.ok (s,d)) x=.ok (s,d)from iP (.inr l)]at h;exact MW (a.less λk E=>by rw[map_cons,cons_append,List.count_cons_of_ne (by omega)]) (λy c=>f y (by simp[c])) h
  obtain⟨z,C⟩:=(f x (by simp)).resolve_left l;have D:RX 0 true (.ok (s,d)) x=match Ka s x.ref with|.error e=>.error e|.ok t=>.ok (t,d):=(iN λe=>e.elim (λe=>by cases e) l).trans (iN (by decide))
  rw[D]at h;rw[map_cons,cons_append]at a;have i:=a.ok;obtain⟨_,m,j⟩:=a.loose z (.inr C);have g:=EK s (by have:=a.ok.2.1.1;omega) m;have B:Ka s x.ref=.ok (AM s x.ref.toNat):=iP (by unfold DJ;rw[iP i,iN (by omega),iN m]);rw[B]at h;obtain⟨w,o,n⟩:=MW j (λy c=>f y (by simp[c])) h;exact⟨w,o,g.trans n⟩
theorem Fine.reap{p r:Po}(h:Fine p S [])(f:wTy p=.ok r):∃S',Fine r S' []:=by
 unfold wTy at f;split at f
 ·rename_i X;split at f
  ·cases f
  rename_i Z;obtain⟨R,O,b,Y,_,lv,z,W,i⟩:=Zi X Z;have ab:GR p∈Bc p:=by rw[B7,R];simp
  obtain⟨_,F,ac⟩:=h.ins _ ab;obtain⟨M,_,_,l,U,y,ht,_⟩:=Ja ac;rw[i]at y;have h5:lv=(l:Int)/\z=U:=by simpa using y
  obtain⟨rfl,rfl⟩:=h5;have D:=Ar i;rw[W]at f;have H:En p.st S (GR p::((p.root::p.dead.dropLast)++KP (AT p.st p.root))):=h.en.less λk hk=>by
   rw[B7];have e:p.dead.count k=(p.dead.dropLast++[GR p]).count k:=by rw[<-R]
   simp only[List.count_cons,List.count_append,cons_append,List.nil_append,List.count_nil]at e⊢;omega
  have I:∀r∈p.dead.dropLast,(8<=r/\r<256)/\r.toNat∈S/\(AN p.st r).2=0:=λr C=>h.ins r (by rw[B7];exact List.mem_append_left _ (List.mem_cons_of_mem _ (List.dropLast_subset _ C)));have o:p.dead.dropLast.length<=40:=by have:=h.dead;rw[List.length_dropLast];omega
  have j:∀{s:Sto}{d:List Int},wQn p (.ok (s,d))=.ok r->d.length<=40/\r=⟨s,p.gen,p.root,p.next,d⟩:=λ{s d} P=>by
   unfold wQn at P;dsimp only at P;split at P
   ·cases P
   cases P;exact⟨by omega,rfl⟩
  have Q:=H.enough (GR p) (by omega) b;rw[List.count_cons_self]at Q;have aa:=M.2.1.1;cases T:rpG p with
  |false=>
   rw[T,ZW]at f
   obtain⟨_,rfl⟩:=j f
   have E:(p.st.now.getD (GR p).toNat 0).toNat≠1:=λe=>by have:=oF (show decide _=false from T);omega
   have af:(p.st.now.getD (GR p).toNat 0).toNat≠0:=λe=>Y (UInt8.toNat.inj e)
   obtain⟨_,_,m⟩:=H.loose ⟨O,b⟩ (.inl (by omega))
   obtain⟨g,_⟩:=FU (s:=p.st) (k:=(GR p).toNat) (by omega) (by omega)
   exact⟨S,h.moved ((Kp.ext g λn hn _=>hn).oks m.ok) I m o⟩
  |true=>
   rw[T]at f
   have E:p.st.now.getD (GR p).toNat 0=1:=UInt8.toNat.inj (by have:=oT (show decide _=true from T);have ag:(1:By).toNat=1:=rfl;omega)
   have ad:AM p.st (GR p).toNat=AS p.st (GR p).toNat:=by unfold AM AS;rw[E];rfl
   rw[ad]at f
   obtain⟨m,_,_⟩:=H.clear ⟨O,b⟩ E F i
   have L:=DS p.st (GR p).toNat
   cases l with
   |zero=>
    cases G:z.foldl (RX ((0:Nat):Int) true) (.ok (AS p.st (GR p).toNat,p.dead.dropLast))with
    |error e=>
     have a:wQn p (z.foldl (RX ((0:Nat):Int) true) (.ok (AS p.st (GR p).toNat,p.dead.dropLast)))=.ok r:=f
     rw[G]at a;cases a
    |ok x=>
     obtain⟨u,d'⟩:=x
     have a:wQn p (z.foldl (RX ((0:Nat):Int) true) (.ok (AS p.st (GR p).toNat,p.dead.dropLast)))=.ok r:=f
     rw[G]at a
     obtain⟨rfl,c,K⟩:=MW m (λx g=>by
      rcases D.ref x g with h0|h1
      ·exact .inl h0
      exact .inr ⟨h1,h.en.disj _ F z i x g (by omega)⟩) G
     obtain⟨_,rfl⟩:=j a
     exact⟨S,h.moved ((Kp.thin (L.trans K) c).oks c.ok) I c o⟩
   |succ l=>
    have J:=λx g=>D.up (by omega) x g
    have a:wQn p (z.foldl (RX ((l+1:Nat):Int) true) (.ok (AS p.st (GR p).toNat,p.dead.dropLast)))=.ok r:=f
    rw[ZV (by omega) J]at a
    obtain⟨ae,rfl⟩:=j a
    have N:=Kj ht
    have w:=Fd ht
    have c:En (AS p.st (GR p).toNat) S ((p.root::(p.dead.dropLast++z.map (·.ref)))++KP (AT p.st p.root)):=m.perm (by
     simp only[cons_append,append_assoc]
     refine(List.perm_middle).trans (List.Perm.cons _ ?_)
     rw[<-append_assoc,<-append_assoc]
     exact List.Perm.append_right _ List.perm_append_comm)
    refine⟨S,h.moved ((Kp.thin L c).oks c.ok) (λr C=>?_) c ae⟩
    rcases mA C with C|C
    ·exact I r C
    obtain⟨x,g,rfl⟩:=List.mem_map.1 C
    obtain⟨c1,_⟩:=h.en.closed _ F _ _ i (by omega) x g
    obtain⟨ys,y1,_,_,y4⟩:=N x g
    have hb:8<=x.ref/\x.ref<256:=by have:=D.ref x g;have:=J x g;omega
    have V:Srt (Ax p.st l ys):=by
     have h6:Ba p.st (l+1) x=Ax p.st l ys:=Bf y1
     rw[<-h6]
     obtain⟨A,B,e⟩:=List.append_of_mem g
     rw[e,A3,Dq]at w
     exact(List.pairwise_append.1 (List.pairwise_append.1 w).2.1).1
    exact⟨hb,c1,by rw[(LN M hb y1 (KR y4 V)).1]⟩
 cases f
theorem wKh{p q:Po}(h:MO p d=.ok (q,k)):∃t,HB p.st (RA d)=.ok (t,k)/\q=ES p t/\d.length<=128:=by
 unfold MO at h;cases a:G0 p d with
 |error e=>rw[a]at h;cases h
 |ok x=>
  obtain⟨b,g⟩:=x
  rw[a]at h
  dsimp only at h
  have l:PJ (.ok b)=.ok q/\g=k:=by
   cases f:PJ (.ok b)with
   |error e=>rw[f]at h;cases h
   |ok m=>rw[f]at h;cases h;exact⟨rfl,rfl⟩
  obtain⟨j,rfl⟩:=l
  have i:=PI j
  cases i
  unfold G0 at a
  split at a
  ·split at a
   ·cases a
   rename_i o
   cases c:HB p.st (RA d)with
   |error e=>rw[c]at a;cases a
   |ok y=>obtain⟨t,n⟩:=y;rw[c]at a;cases a;exact⟨t,rfl,rfl,by omega⟩
  cases a
variable{α:Type}
theorem Fl{r:Except Int α}{a:α}(h:r.toOption=some a):r=.ok a:=by cases r<;>simp_all [Except.toOption]
def u32(q:Int):Prop:=0<=q/\q<4294967296
def wTc(p:Po):Option Po:=(PJ (KL p)).toOption
def wQg(p:Po)(v:Int)(f:Bool):Option Po:=(UD p v f).toOption
def wSu(p:Po)(v:Int)(f:Bool):Option Po:=(wSv p v f).toOption
def wQu(p:Po)(v:Int):Option Po:=(UR p v).toOption
def rpO(p:Po):Option Po:=(wTy p).toOption
def Fh(p:Po)(hs:List Int):Prop:=∃S,Fine p S hs/\∀k∈hs,(0<k/\k<256)/\k.toNat∉S
variable{S:List Nat}
theorem Fine.fh{p:Po}(h:Fine p S []):Fh p []:=⟨S,h,by simp⟩
section
variable{p r:Po}{hs:List Int}{q v id:Int}{x:It}
theorem Fh.put0(h:Fh p hs)(b:u32 q)(hk:Bh x.key)(g:x.ref=0)(d:EC p q x=some r):Fh r hs:=by
 obtain⟨S,c,a⟩:=h;obtain⟨i,f,e⟩:=c.putH b hk (.inl ⟨g,rfl⟩) (Fl d);exact⟨i,f,λk hk=>⟨(a k hk).1,e k hk (a k hk).1 (a k hk).2⟩⟩
theorem Fh.put1(h:Fh p (x.ref::hs))(b:u32 q)(hk:Bh x.key)(d:EC p q x=some r):Fh r hs:=by
 obtain⟨S,c,a⟩:=h;obtain⟨g,f,e⟩:=c.putH b hk (.inr ⟨rfl,(a _ (by simp)).2⟩) (Fl d);have a:=λk hk=>a k (List.mem_cons_of_mem _ hk);exact⟨g,f,λk hk=>⟨(a k hk).1,e k hk (a k hk).1 (a k hk).2⟩⟩
theorem Fh.del{k:Ky}(h:Fh p hs)(c:u32 q)(e:Pu p q k=some r):Fh r hs:=by
 obtain⟨S,d,b⟩:=h;obtain⟨i,g,f⟩:=d.delH c (Fl e);exact⟨i,g,λk a=>⟨(b k a).1,f k a (b k a).1 (b k a).2⟩⟩
theorem Fh.lay{d:List By}{k:Int}(h:Fh p [])(e:(MO p d).toOption=some (r,k)):Fh r [k]:=by
 obtain⟨S,c,_⟩:=h;obtain⟨t,a,rfl,i⟩:=wKh (Fl e);obtain⟨j,g,f⟩:=c.lay (HI i) a;obtain⟨n,rfl,l,_⟩:=wGn a;exact⟨j,g,λk b=>by rw[mS b];exact⟨by omega,f⟩⟩
theorem Fh.share{k:Int}(h:Fh p hs)(a:wCc p k=some r):Fh r (k::hs):=by
 obtain⟨S,c,d⟩:=h;have a:=Fl a;unfold Tn at a;split at a
 ·rename_i f;split at a
  ·cases a
  rename_i t g;cases a;refine⟨S,(c.share g).1,λj b=>?_⟩;rcases List.mem_cons.1 b with rfl|b
  ·obtain ⟨_,n,e,i⟩:=wMs f;refine⟨by omega,λm=>?_⟩;have:=c.nodes m i λk l=>(d k l).2;rw[Int.toNat_of_nonneg (by omega)]at this;unfold QV at f;grind
  exact d j b
 cases a
theorem Fh.perm{hs':List Int}(h:Fh p hs)(a:hs.Perm hs'):Fh p hs':=by
 obtain⟨S,b,d⟩:=h;exact⟨S,{ b with en:=b.en.perm (a.append_right _) },λk c=>d k (a.mem_iff.2 c)⟩
end
variable{hs:List Int}
theorem Fh.st{p:Po}(h:Fh p hs):Au p.st:=by obtain⟨S,a,_⟩:=h;exact Fg a.chk
theorem Fh.nx{p:Po}(h:Fh p hs):p.dead.length<=1000000/\0<=p.next/\p.next<4294967296:=by
 obtain⟨S,h,_⟩:=h;exact⟨by have:=h.dead;omega,h.next⟩
theorem Fh.create{p r:Po}(h:Fh p [])(a:wTc p=some r):Fh r []:=by
 obtain⟨S,h,_⟩:=h;obtain⟨c,b⟩:=h.create (PI (Fl a));exact b.fh
variable{f:Bool}
theorem Fh.snap{p r:Po}{v:Int}(h:Fh p [])(a:u32 v)(b:wQg p v f=some r):Fh r []:=by
 obtain⟨S,h,_⟩:=h;obtain⟨d,c⟩:=h.snap a (Fl b);exact c.fh
theorem Fh.freeze{p r:Po}{v:Int}(h:Fh p [])(a:u32 v)(b:wSu p v f=some r):Fh r []:=by
 obtain⟨S,h,_⟩:=h;obtain⟨d,c⟩:=h.freeze a (Fl b);exact c.fh
theorem Fh.delete{p r:Po}{v:Int}(h:Fh p [])(a:wQu p v=some r):Fh r []:=by
 obtain⟨S,h,_⟩:=h;obtain⟨c,b⟩:=h.delete (Fl a);exact b.fh
theorem Fh.reap{p r:Po}(h:Fh p [])(a:rpO p=some r):Fh r []:=by
 obtain⟨S,h,_⟩:=h;obtain⟨c,b⟩:=h.reap (Fl a);exact b.fh
theorem wRd:∀k∈range 256,([8]:List Int).count (k:Int)=(po0.st.now.getD k 0).toNat:=by decide +kernel
theorem PQ:Ag po0.st 8=some (0,[]):=by decide +kernel
theorem po0_fine:Fine po0 [8] []:=by
 have g:AT po0.st po0.root=[]:=by unfold AT;rw[show po0.root.toNat=8 from rfl,PQ];rfl
 have i:Bc po0=[8]:=by rw[B7,g];rfl
 have c:Au po0.st:=(wTp wRe).1.st;have j:∀x∈AT po0.st po0.root,Dr x/\x.key.id≠0/\x.key.id<po0.next:=λx a=>by rw[g]at a;cases a
 have m:(AT po0.st po0.root).length<=16:=by rw[g];exact zL
 refine⟨?_,λr d=>?_,j,m,zL,⟨by decide,by decide⟩,by decide⟩
 ·rw [i];refine⟨c,by decide,λk s j=>?_,λn f l b x a=>?_,λn f lv l b o x a=>?_⟩
  ·have e:wS po0.st [8] k=0:=by unfold wS;rw[map_cons,List.map_nil,CB PQ];rfl
   have:=wRd k.toNat (List.mem_range.2 (by omega));rw[show ((k.toNat:Nat):Int)=k by omega]at this;rw[e,<-this];exact Nat.zero_add _
  ·rw [mS f,PQ]at b;cases b;cases a
  rw[mS f,PQ]at b;cases b;cases a
 rw[i]at d;rw[mS d];refine⟨by omega,by decide,?_⟩;unfold AN;rw[iP c,iN (by decide),iN (by decide +kernel),show (8:Int).toNat=8 from rfl,PQ];dsimp only;rw[iP (show A1 po0.st (Int.toNat 0) []from λh=>aD rfl h)]
theorem wYe:Fh po0 []:=po0_fine.fh
theorem Fh.cnt{p:Po}(h:Fh p []):AO p=0/\∀j:Nat,8<=j->j<256->(CS p).getD j 0=((p.st.now.getD j 0).toNat:Int):=by
 obtain⟨S,a,_⟩:=h;exact⟨a.chk,λj c b=>by
  have:=(cntB_iff.1 a.cnt).2 j c b;exact this⟩
variable{p r:Po}{hs:List Int}{q v id:Int}{x:It}
theorem wLe{x:Ino}(h:inoE x=0):1<=x.id/\x.id<=1048576:=by unfold inoE at h;split at h<;>omega
variable{i:Int}
theorem E2(h:u32 i):Bh (FH i):=⟨by unfold FH;dsimp only;omega,h,by unfold FH;dsimp only;omega⟩
theorem Fh.iput{x:Ino}(h:Fh p hs)(b:u32 v)(a:Fz p v x=some r):Fh r hs:=by
 unfold Fz at a;split at a
 ·rename_i c;exact h.put0 b (E2 (by have:=wLe c;unfold u32;omega)) rfl a
 cases a
theorem Hz:u32 0:=by unfold u32;omega
variable{n:Int}
theorem Fh.next(h:Fh p hs)(a:u32 v)(b:EC p v (Sh n)=some r):Fh r hs:=h.put0 a (E2 Hz) rfl b
theorem Fh.root(h:Fh p hs)(b:u32 id)(a:Nu p id=some r):Fh r hs:=by
 unfold Nu at a;obtain⟨l,_,a⟩:=oB a;split at a
 ·obtain ⟨q,c,a⟩:=oB a;exact(h.put0 b (E2 (by unfold u32;decide)) rfl c).next b a
 cases a
variable{d:Bool}
theorem Fh.inew(h:Fh p hs)(b:u32 v)(a:HU p v d=some (r,n)):Fh r hs:=by
 unfold HU at a;obtain⟨i,_,a⟩:=oB a;split at a
 ·cases a
 obtain⟨q,e,a⟩:=oB a;obtain⟨f,c,a⟩:=oM a;cases a;exact(h.put0 b (E2 (by unfold u32;dsimp only;omega)) rfl e).next b c
variable{s:List By}
theorem Fh.add(h:Fh p hs)(b:u32 v)(c:u32 id)(a:Hi p v id s n=some r):Fh r hs:=by
 unfold Hi at a;obtain⟨l,_,a⟩:=oB a;split at a
 ·cases a
 refine h.put0 b (x:=⟨Ro id (Hn l.2),0,Pd 4 n++s⟩) ⟨by unfold Ro;dsimp only;omega,c,?_⟩ rfl a;have:Hn l.2<=l.2.length:=by
  unfold Hn;cases d:(range l.2.length).find? λ(n:Nat)=>decide (l.2.getD n 0≠(n:Int))with
  |none=>exact lR
  |some m=>exact Nat.le_of_lt (List.mem_range.1 (List.mem_of_find?_eq_some d))
 unfold Ro;dsimp only;omega
theorem Fh.take(h:Fh p hs)(b:u32 v)(a:Ei p v id s=some r):Fh r hs:=by
 unfold Ei at a;obtain⟨l,_,a⟩:=oB a;obtain⟨k,_,a⟩:=oB a;exact h.del b a
variable{b:Int}
theorem TK(h:TL id b=0):(1<=id/\id<=1048576)/\0<=b/\b<32:=by unfold TL at h;split at h<;>omega
theorem Yw(h:TL id b=0):Bh (Hq id b):=by have:=TK h;unfold Hq Bh;dsimp only;omega
theorem Fh.exw{d:List By}(h:Fh p [])(c:u32 v)(a:D5 p v id b d=some r):Fh r []:=by
 unfold D5 at a;split at a
 ·rename_i f;obtain⟨⟨q,k⟩,e,a⟩:=oB a;exact(h.lay e).put1 (x:=⟨Hq id b,k,[]⟩) c (Yw f.1) a
 cases a
theorem Fh.exd(h:Fh p hs)(c:u32 v)(a:FB p v id b=some r):Fh r hs:=by
 unfold FB at a;obtain⟨l,_,a⟩:=oB a;split at a
 ·cases a;exact h
 exact h.del c a
variable{σ:Type}
theorem E6{α:Type}{f:Option σ->α->Option σ}(a:∀x,f none x=none):∀l:List α,l.foldl f none=none
 |[]=>rfl
 |x::l=>by rw[foldl_cons,a];exact E6 a l
variable{I:σ->Prop}
theorem LI{α:Type}{f:Option σ->α->Option σ}(g:∀x,f none x=none)(hs:∀a x b,I a->f (some a) x=some b->I b):∀{l:List α}{a b:σ},I a->l.foldl f (some a)=some b->I b
 |[],a,b,d,h=>by cases h;exact d
 |x::l,a,b,d,h=>by
  rw[foldl_cons]at h;cases e:f (some a) x with
  |none=>
   rw[e]at h
   rw[E6 g]at h;cases h
  |some c=>rw[e]at h;exact LI g hs (hs _ _ _ d e) h
theorem Fh.turn{f:Ino->Option (Po×Int)}(d:u32 v)(b:∀x q n,f x=some (q,n)->Fh q [])(a:Hj p v id f=some r):Fh r []:=by
 unfold Hj at a;obtain⟨x,_,a⟩:=oB a;split at a
 ·obtain ⟨⟨q,n⟩,c,a⟩:=oB a;dsimp only at a;split at a
  ·exact (b _ _ _ c).iput d a
  cases a;exact b _ _ _ c
 cases a
variable{a:Int}
theorem Fh.write{d:List By}(h:Fh p [])(i:u32 v)(g:FY p v id a d=some r):Fh r []:=by
 unfold FY at g;obtain⟨l,_,g⟩:=oB g;refine Fh.turn i (λx q n f=>?_) g;split at f
 ·cases f;exact h
 obtain⟨o,m,f⟩:=oM f;cases f;refine LI (I:=λo:Po×List By=>Fh o.1 []) (λx=>rfl) (λa x b j c=>?_) h m;obtain⟨_,e,c⟩:=oB c;cases e;obtain⟨_,_,c⟩:=oB c;obtain⟨_,_,c⟩:=oB c;obtain⟨q,k,c⟩:=oM c;cases c;exact Fh.exw j i k
variable{al:Bool}
theorem Fh.blank{x:Pc}(h:Fh p [])(b:u32 v)(a:Ge p v id x al=some r):Fh r []:=by
 unfold Ge at a;obtain⟨_,_,a⟩:=oB a;split at a
 ·cases a;exact h
 obtain⟨_,_,a⟩:=oB a;exact h.exw b a
theorem Fh.tcut(h:Fh p [])(i:u32 v)(d:HA p v id n=some r):Fh r []:=by
 unfold HA at d;split at d
 ·cases d
 obtain⟨g,_,d⟩:=oB d;obtain⟨q,l,d⟩:=oB d;have j:Fh q []:=LI (I:=λq=>Fh q []) (λx=>rfl) (λa x b k f=>by
  obtain⟨c,e,f⟩:=oB f;cases e;split at f
  ·exact k.exd i f
  cases f;exact k) h l
 split at d
 ·exact j.blank i d
 cases d;exact j
theorem Fh.tpun(h:Fh p [])(i:u32 v)(d:RO p v id a b=some r):Fh r []:=by
 unfold RO at d;split at d
 ·cases d
 obtain⟨_,_,d⟩:=oB d;obtain⟨_,_,d⟩:=oB d;refine LI (I:=λq=>Fh q []) (λx=>rfl) (λa x b g f=>?_) h d;obtain⟨c,e,f⟩:=oB f;cases e;split at f
 ·cases f;exact g
 split at f
 ·exact g.exd i f
 exact g.blank i f
theorem Fh.size(h:Fh p [])(c:u32 v)(b:QH p v id n=some r):Fh r []:=by
 unfold QH at b;split at b
 ·refine Fh.turn c (λx q m a=>?_) b;split at a
  ·cases a;exact h
  obtain⟨g,e,a⟩:=oB a;obtain⟨f,d,a⟩:=oM a;cases a;exact(h.tcut c e).iput c d
 cases b
theorem Fh.punch(h:Fh p [])(e:u32 v)(d:V3 p v id a b=some r):Fh r []:=by
 unfold V3 at d;split at d
 ·refine Fh.turn e (λx q m c=>?_) d;split at c
  ·cases c;exact h
  obtain⟨g,f,c⟩:=oM c;cases c;exact h.tpun e f
 cases d
variable{l:List Int}
theorem wLg:∀{p r:Po}{hs:List Int},Fh p hs->l.foldl J5 (some p)=some r->Fh r (l.filter (· ≠0)++hs):=by
 induction l with
 |nil=>intro p r hs h a;cases a;exact h
 |cons k l d=>
  intro p r hs h a
  rw[foldl_cons,show J5 (some p) k=if k=0 then some p else wCc p k from rfl]at a
  by_cases c:k=0
  ·subst c;rw[iP rfl]at a;exact d h a
  rw[iN c]at a
  cases b:wCc p k with
  |none=>rw[b,E6 λ_=>rfl]at a;cases a
  |some q=>
   rw[b]at a
   refine(d (h.share b) a).perm ?_
   rw[List.filter_cons_of_pos (by simpa using c),cons_append]
   exact List.perm_middle
theorem Zv(e:u32 v)(g:1<=id/\id<=1048576)(m:0<=b):∀{l:List Int}{p:Po}{i:Int}{o:Po×Int},0<=i->b+i+l.length<=32->Fh p (l.filter (· ≠0))->l.foldl (Vd v id b) (some (p,i))=some o->Fh o.1 []
 |[],p,i,o,_,_,h,a=>by cases a;exact h
 |k::l,p,i,o,w,s,h,a=>by
  rw[foldl_cons]at a;rw[List.length_cons]at s;cases d:Vd v id b (some (p,i)) k with
  |none=>
   rw[d,E6 λ_=>rfl]at a;cases a
  |some q=>
   rw[d]at a
   obtain⟨q,j⟩:=q
   unfold Vd at d
   rw[bS]at d
   obtain⟨u,c,n⟩:=oM d
   cases n
   refine Zv e g m (by omega) (by omega) ?_ a
   unfold wCj at c
   by_cases f:k=0
   ·subst f;rw[iP rfl]at c;exact Fh.exd h e c
   rw[iN f]at c
   rw[List.filter_cons_of_pos (by simpa using f)]at h
   exact Fh.put1 (x:=⟨Hq id (b+i),k,[]⟩) h e (by unfold Hq Bh;dsimp only;omega) c
variable{i1 v1:Int}
theorem Fh.clone(h:Fh p [])(i:u32 v)(c:K3 p v1 i1 b v id a n=some r):Fh r []:=by
 unfold K3 at c;split at c
 ·rename_i f;obtain⟨e,_,c⟩:=oB c;obtain⟨_,d,c⟩:=oB c;obtain⟨q,l,c⟩:=oB c;obtain⟨o,k,rfl⟩:=oM c;have j:TL id 0=0:=by unfold DI at d;split at d;assumption;cases d
  have g:=wLg h l;rw[List.append_nil]at g;refine Zv i (TK j).1 f.2.1 (Int.le_refl 0) ?_ g k;have:=f.2;unfold Ho at this;rw[List.length_take];omega
 cases c
theorem Fh.shar(h:Fh p [])(e:u32 v)(c:V1 p v1 i1 b v id a n=some r):Fh r []:=by
 unfold V1 at c;split at c
 ·obtain ⟨_,_,c⟩:=oB c;refine Fh.turn e (λx q m d=>?_) c;split at d
  ·cases d;exact h
  obtain⟨g,f,d⟩:=oM d;cases d;exact h.clone e f
 cases c
theorem Fh.make(h:Fh p hs)(b:u32 v)(c:u32 id)(a:Lm p v id s d=some (r,n)):Fh r hs:=by
 unfold Lm at a;split at a
 ·obtain ⟨⟨q,k⟩,f,a⟩:=oB a;obtain⟨g,e,a⟩:=oM a;cases a;exact(h.inew b f).add b c e
 cases a
theorem Fh.link(h:Fh p hs)(b:u32 v)(c:u32 id)(a:Nz p v1 i1 v id s=some r):Fh r hs:=by
 unfold Nz at a;obtain⟨x,_,a⟩:=oB a;split at a
 ·rename_i e;obtain⟨q,d,a⟩:=oB a;exact(h.add b c d).iput (by rw[e.2.2.1];exact b) a
 cases a
theorem Fh.unlink(h:Fh p [])(b:u32 v)(a:Tc p v id s=some r):Fh r []:=by
 unfold Tc at a;obtain⟨x,_,a⟩:=oB a;split at a
 ·cases a
 obtain⟨q,c,a⟩:=oB a;split at a
 ·exact (h.take b c).iput b a
 obtain⟨e,d,a⟩:=oB a;exact((h.take b c).tcut b d).del b a
theorem Fh.remove(h:Fh p hs)(b:u32 v)(a:UN p v id s=some r):Fh r hs:=by
 unfold UN at a;obtain⟨x,_,a⟩:=oB a;split at a
 ·obtain ⟨l,_,a⟩:=oB a;split at a
  ·obtain ⟨q,c,a⟩:=oB a;exact(h.take b c).del b a
  cases a
 cases a
theorem wCn(ys:List By)(y:By):wJg (ys++[y])=Nf .i64 (LV .i64 (wJg ys) 8) (y.toNat:Int):=by simp[wJg]
theorem wKf(k:Nat)(n:Int):Pd (k+1) n=Pd k n++[bU (n / 256 ^ k)]:=by simp[Pd,List.range_succ]
theorem GZ(k:Nat)(n:Int):(Pd k n).length=k:=by simp[Pd]
theorem shr8(n:Int)(k:Nat):DV .i64 (n / 256 ^ k) 8=n / 256 ^ (k+1):=by
 unfold DV;rw[show (2:Int) ^ (min 8 IntKind.i64.bits)=256 by decide,Int.fdiv_eq_ediv_of_nonneg _ (by decide),Int.pow_succ,Int.ediv_ediv_of_nonneg (Int.pow_nonneg (by decide))]
theorem Vf(b:Option Addr)(c:Nat)(xs:List By)(M:Mem)(hs:SM M b (Aa xs))(w:xs.length<=1000000):
  Sg 189 #[.slice b xs.length c] M [] λu M' s=>u=iL (ET xs)/\s=[]:=by
 refine sB func189 ntmps189 ?_;intro W;refine gA λi=>?_;refine gC (bwb _ _ _ M) ?_;rintro _ o _ f ⟨k,rfl,j,rfl⟩;refine gh ?_;refine D0 (R:=[(i,cE [iL 0] 3)]) (xs:=bw xs 0) (enc:=(λp:By×Nat=>[iL p.2,iB p.1.toNat])) (ps:=[8,9]) rfl (by kernel_rfl) (Wz k b c xs o j (hs.mono f) (by omega))
  (λa _ R=>R=[(i,cE [iL (wJg (a.map (·.1)))] 3)])
  (λ_ _ _ _=>False)
  (λ_=>rfl) (by decide) rfl ?_ ?_ ?_
 ·intro l z a y n m e g h;subst g;refine gh ?_;refine jK λB=>?_;refine gh ?_;refine lq (DE rfl rfl rfl rfl (by omega) rfl) ?_;refine gh ?_;refine lq (Eo rfl rfl rfl (by rw[IntKind.wrap_i64];have:=y.1.toNat_lt;omega)) ?_;refine lq (EH rfl rfl rfl rfl rfl) ?_;refine gh ?_;refine wFt ?_;grind[wCn]
 ·intro d n m e g;subst g;refine gh ?_;refine Bn (L2:=_) (List.Perm.refl _) ?_;refine gr ?_;exact⟨by rw[Jc];rfl,rfl⟩
 grind
theorem FE(n:Int)(m:Nat)(C:m<=8)(M:Mem):
  Sg 176 #[iL n,iL m] M [] λu M' B=>BS M' u (Pd m n)/\B=[]:=by
 refine sB func176 ntmps176 ?_;intro W;refine gh ?_;refine Cy (α:=Nat×Int×Value×Lc) (λx=>[(0,iL x.2.1),(5,x.2.2.1),(6,iL m),(7,iL (x.1:Int))]) (λ_=>M) (λx=>x.2.2.2) (λx=>x.1<=m/\x.2.1=n / 256 ^ x.1/\Own x.2.2.1 x.2.2.2 5 1 x.1 (Aa (Pd x.1 n))) (λx=>m-x.1) (0,n,sN,[]) ⟨zL,by show n=n / 256 ^ 0;simp,Own.nil _ _⟩ ?_;rintro⟨k,j,v,R⟩ ⟨l,f,d⟩;try dsimp only at l f d⊢
 refine gj (λw=>?_) λw=>?_
 ·refine gh ?_;refine lq (Bo (Bm rfl rfl rfl) (by rw[Fc])) ?_;refine lh (Ab (cs:=[_]) rfl rfl rfl (by rfl) (by rfl) (by rfl)) ?_;rintro _ _ _ ⟨y,rfl,rfl,rfl⟩;refine lh (AY (R:=R) (m:=1) (news:=[iB ((bU j).toNat:Int)]) rfl rfl rfl rfl d rfl (λi v h=>CJ.loc (by simpa using h)) rfl rfl (by simp[Value.oneCell']) (by omega) (by decide)) ?_;rintro g _ _ ⟨rfl,z,rfl,b,_⟩;refine gh ?_;refine lq (DE rfl rfl rfl rfl (by omega) rfl) ?_;refine gh ?_;refine BB (k+1,DV .i64 j (Int.toNat 8),g,z) ⟨by show k+1<=m;omega,by show DV .i64 j 8=_;rw[f,shr8],by show Own _ _ _ _ _ (Aa (Pd (k+1) n));rw[wKf,<-f];unfold Aa at b ⊢;rw[List.map_append];exact b⟩
 refine gh ?_;obtain rfl:k=m:=by omega
 refine BF d (by simp) ?_;intro D a c s e o hs;subst e;refine gr ?_;exact⟨⟨a,c,by rw[GZ],by rw[GZ];exact o,hs⟩,rfl⟩
theorem Dp(i:Int)(M:Mem):Sg 104 #[iU i] M [] λu _ _=>u=.agg (Az (FH i)).toArray:=by
 refine sB func104 ntmps104 ?_;intro W;refine gA λa=>?_;refine gr ?_;rfl
abbrev RC(x:Ino):List Value:=[iU x.id,.bool x.dir,iL x.links,iL x.size]
theorem NC(x:Ino)(M:Mem):Sg 203 #[.agg (RC x).toArray] M [] λu _ _=>u=iL (inoE x):=by
 obtain⟨i,d,l,z⟩:=x;cases d;all_goals
  refine sB func203 ntmps203 ?_;intro W;refine gg ?_;refine lh (Bz (cs:=[iU i,.bool _,iL l,iL z]) rfl rfl rfl rfl) ?_;rintro _ _ _ ⟨a,rfl,rfl,rfl⟩;refine gg ?_;refine lq (Aw rfl rfl rfl rfl (CJ.loc rfl)) ?_;iterate 6
   refine gj (λh=>?_) λh=>?_;refine gr ?_;grind[inoE]
  refine gr ?_;grind[inoE]
theorem Qu(n:Int)(M:Mem):Sg 107 #[iL n] M [] λu M' c=>(∃s:Sl,u=.agg #[iB 2,iU 0,iU 0,iL 0,s.v]/\BS M' s.v (Pd 4 n))/\c=[]:=by
 refine sB func107 ntmps107 ?_;intro W;refine ga λd=>?_;refine gQ (Dp 0 M) ?_;refine gc (FE n 4 (by decide) M) ?_;rintro _ e b a;obtain⟨sl,rfl⟩:=a.sl;refine gr ?_;exact⟨⟨sl,rfl,a⟩,rfl⟩
theorem X4(p:Po)(x:V5)(M:Mem)(h:PW M x p)(q i:Int)(c:0<=q/\q<4294967296):Sg 212 #[.agg (Bk x p.gen p.root p.next).toArray,iU q,iU i] M [] λu M' f=>PoR (HV p q i) u M'/\f=[]:=by
 refine sB func212 ntmps212 ?_;intro W;refine JM λd l=>?_;refine DW [0,1,2,3,104,5,6,107,8] [(d,cE (Bk x p.gen p.root p.next) 32)] ?_;refine gg ?_;refine dq rfl (qC (Dp i _)) ?_;refine dh rfl (hC (Na p x M h q c (FH i))) ?_;rintro _ m _ ⟨a,R,rfl,b,rfl⟩;refine⟨a,by simp,?_⟩;obtain⟨y,g,j,n,e,rfl,k⟩:=id b;refine gr ?_;exact⟨b,rfl⟩
theorem KD(x:Ino)(M:Mem):Sg 106 #[.agg (RC x).toArray] M [] λu M' L'=>(∃s:Sl,u=.agg #[iB 2,iU x.id,iU 0,iL 0,s.v]/\BS M' s.v (LD x).val)/\L'=[]:=by
 obtain⟨i,d,l,z⟩:=x;cases d
 ·refine sB func106 ntmps106 ?_;intro W;refine JM λQ Y=>?_;refine AX ([(Q,cE (RC ⟨i,false,l,z⟩) 43)]) (by kernel_rfl) (by simp) ?_;refine gk [0,1] ?_;refine Er (i:=2) rfl (by kernel_rfl) (by kernel_rfl) rfl rfl (qC (Dp i _)) ?_;refine gk [3,5,6,8,9] ?_;refine wKt [4,7,10] (λi=>match i with|4=>10|7=>13|_=>16) (λi v R M=>R=[]/\match i with|4=>BS M v [bU 0]|7=>BS M v (Pd 2 l)|_=>BS M v (Pd 4 z)) #[true,true,true,true,true,true,true,true,true,true,true,false,false,false,false] 4 (par3 (Par.slice (cs:=[iB _]) (λb M' _ e=>⟨rfl,Fm ⟨by decide,by decide⟩ e⟩) (λv R F o k h=>⟨h.1,h.2.mono k⟩)) (Par.call (λM' k=>(FE l 2 (by decide) M').mono λu o S h=>⟨h.2,h.1⟩) (λv R F o k h=>⟨h.1,h.2.mono k⟩)) (Par.call (λM' k=>(FE z 4 (by decide) M').mono λu o S h=>⟨h.2,h.1⟩) (λv R F o k h=>⟨h.1,h.2.mono k⟩))) (by simp) (mR) ?_;intro n Rs F j B;obtain⟨L,D⟩:=B 4 (by simp);obtain⟨K,C⟩:=B 7 (by simp);obtain⟨y,m⟩:=B 10 (by simp);rw[show ([4,7,10]:List Nat).flatMap Rs=[]by simp[L,K,y]];show JA _ _ _ _ _ _ ((10,n 4)::(13,n 7)::(16,n 10)::_) _ _ _ _ _;generalize n 4=U at D⊢;generalize n 7=T at C⊢;generalize n 10=I at m⊢;obtain⟨X,rfl⟩:=D.sl;obtain⟨V,rfl⟩:=C.sl;obtain⟨J,rfl⟩:=m.sl;refine aO 11 ?_;refine sh rfl (DC (cs:=[_,_,_]) (by simp) rfl rfl rfl rfl rfl rfl) ?_;rintro _ o _ ⟨P,rfl,rfl,f,E⟩;refine aG (j.trans f) ?_;refine aO 12 ?_;refine sh rfl (hC (DR _ _ o (LS.three E (D.mono f) (C.mono f) (m.mono f)) (by simp) (by simp[GZ]))) ?_;rintro _ M3 _ ⟨w,R,rfl,g⟩;refine aG ((j.trans f).trans w) ?_;obtain⟨H,G,rfl⟩:=g.form;refine Er (i:=13) rfl (by kernel_rfl) (by kernel_rfl) rfl rfl (BC (cs:=[_,_,_,_,_]) rfl rfl rfl (by rfl)) ?_;refine aO 14 ?_;refine Tx rfl rfl (Ak rfl rfl rfl rfl rfl rfl rfl rfl) ?_;rintro _ _ _ ⟨rfl,rfl⟩;refine aG ((j.trans f).trans w) ?_;refine Fx (by kernel_rfl) ?_;refine wSi (jT ?_);refine HQ g (by simp) ?_;intro Z a c O e N hs;cases e;refine gr ?_;exact⟨⟨⟨H,_,G⟩,rfl,⟨H,G,rfl,N,hs⟩⟩,rfl⟩
 refine sB func106 ntmps106 ?_;intro W;refine JM λQ Y=>?_;refine AX ([(Q,cE (RC ⟨i,true,l,z⟩) 43)]) (by kernel_rfl) (by simp) ?_;refine gk [0,1] ?_;refine Er (i:=2) rfl (by kernel_rfl) (by kernel_rfl) rfl rfl (qC (Dp i _)) ?_;refine gk [3,5,6,8,9] ?_;refine wKt [4,7,10] (λi=>match i with|4=>10|7=>13|_=>16) (λi v R M=>R=[]/\match i with|4=>BS M v [bU 1]|7=>BS M v (Pd 2 l)|_=>BS M v (Pd 4 z)) #[true,true,true,true,true,true,true,true,true,true,true,false,false,false,false] 4 (par3 (Par.slice (cs:=[iB _]) (λb M' _ e=>⟨rfl,Fm ⟨by decide,by decide⟩ e⟩) (λv R F o k h=>⟨h.1,h.2.mono k⟩)) (Par.call (λM' k=>(FE l 2 (by decide) M').mono λu o S h=>⟨h.2,h.1⟩) (λv R F o k h=>⟨h.1,h.2.mono k⟩)) (Par.call (λM' k=>(FE z 4 (by decide) M').mono λu o S h=>⟨h.2,h.1⟩) (λv R F o k h=>⟨h.1,h.2.mono k⟩))) (by simp) (mR) ?_;intro n Rs F j B;obtain⟨L,D⟩:=B 4 (by simp);obtain⟨K,C⟩:=B 7 (by simp);obtain⟨y,m⟩:=B 10 (by simp);rw[show ([4,7,10]:List Nat).flatMap Rs=[]by simp[L,K,y]];show JA _ _ _ _ _ _ ((10,n 4)::(13,n 7)::(16,n 10)::_) _ _ _ _ _;generalize n 4=U at D⊢;generalize n 7=T at C⊢;generalize n 10=I at m⊢;obtain⟨X,rfl⟩:=D.sl;obtain⟨V,rfl⟩:=C.sl;obtain⟨J,rfl⟩:=m.sl;refine aO 11 ?_;refine sh rfl (DC (cs:=[_,_,_]) (by simp) rfl rfl rfl rfl rfl rfl) ?_;rintro _ o _ ⟨P,rfl,rfl,f,E⟩;refine aG (j.trans f) ?_;refine aO 12 ?_;refine sh rfl (hC (DR _ _ o (LS.three E (D.mono f) (C.mono f) (m.mono f)) (by simp) (by simp[GZ]))) ?_;rintro _ M3 _ ⟨w,R,rfl,g⟩;refine aG ((j.trans f).trans w) ?_;obtain⟨H,G,rfl⟩:=g.form;refine Er (i:=13) rfl (by kernel_rfl) (by kernel_rfl) rfl rfl (BC (cs:=[_,_,_,_,_]) rfl rfl rfl (by rfl)) ?_;refine aO 14 ?_;refine Tx rfl rfl (Ak rfl rfl rfl rfl rfl rfl rfl rfl) ?_;rintro _ _ _ ⟨rfl,rfl⟩;refine aG ((j.trans f).trans w) ?_;refine Fx (by kernel_rfl) ?_;refine wSi (jT ?_);refine HQ g (by simp) ?_;intro Z a c O e N hs;cases e;refine gr ?_;exact⟨⟨⟨H,_,G⟩,rfl,⟨H,G,rfl,N,hs⟩⟩,rfl⟩
theorem MQ(p:Po)(x:V5)(M:Mem)(h:PW M x p)(q:Int)(j:0<=q/\q<4294967296)(i:Ino):Sg 131 #[.agg (Bk x p.gen p.root p.next).toArray,iU q,.agg (RC i).toArray] M [] λu M' w=>PoR (Fz p q i) u M'/\w=[]:=by
 refine sB func131 ntmps131 ?_;intro W;refine VY λm l C=>?_;refine gQ (NC i M) ?_;refine gj (λb=>?_) λb=>?_
 ·refine gr ?_;exact⟨⟨Pv,0,0,0,_,rfl,.no b (iN b)⟩,rfl⟩
 refine gh ?_;have f:=nN b;have k:Bh (FH i.id):=E2 (by have:=wLe f;unfold u32;omega);refine DW [0,1,2,103,104,5,6,107,8] [(l,cE (RC i) 43),(m,cE (Bk x p.gen p.root p.next) 32)] ?_;refine gg ?_;refine dh rfl (hC (KD i M)) ?_;rintro _ o _ ⟨a,R,rfl,⟨s,rfl,hs⟩,rfl⟩;refine⟨a,by simp,?_⟩;refine dh rfl (hC (GH p x o (h.mono a) q j (LD i) s.v hs k)) ?_;rintro _ D _ ⟨c,R,rfl,d,rfl⟩;refine⟨c,by simp,?_⟩;obtain⟨y,g,z,n,e,rfl,B⟩:=id d;refine gr ?_;exact⟨by unfold Fz;rw[iP f];exact d,rfl⟩
end Go.Proofs.YtjheijhahehnmaaGreatDoor
