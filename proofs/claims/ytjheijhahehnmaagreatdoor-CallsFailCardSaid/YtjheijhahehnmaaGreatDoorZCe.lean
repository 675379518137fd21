/- Walks: package inode. No statement of the seat is proved here. -/
import Derived.Test.YtjheijhahehnmaaGreatDoorZUp
import Derived.Test.YtjheijhahehnmaaGreatDoorZFc
import Derived.Test.YtjheijhahehnmaaGreatDoorZPar
import Derived.Test.YtjheijhahehnmaaGreatDoorZOwn
namespace Go.Proofs.YtjheijhahehnmaaGreatDoor
open Go.Proofs.Tryz
open List (range foldl_cons)
set_option linter.unusedSimpArgs false
set_option linter.unusedVariables false
set_option linter.unusedSectionVars false
set_option maxHeartbeats 40000000
set_option maxRecDepth 8000
open Go.RowKit
structure PW(M:Mem)(x:V5)(p:Po):Prop where
 pt:PT5 M x p
 dead:p.dead.length<=1000000
 next:0<=p.next/\p.next<4294967296
variable{M M':Mem}
theorem PW.mono{x:V5}{p:Po}(h:PW M x p)(a:MLe M M'):PW M' x p:=⟨h.pt.mono a,h.dead,h.next⟩
def Rs{α:Type}(r:Option α)(e:Int)(P:α->Prop):Prop:=(e≠0/\r=none)\/(e=0/\∃a,r=some a/\P a)
variable{e:Int}{α:Type}{P:α->Prop}
theorem Rs.err{r:Option α}(h:Rs r e P)(a:e≠0):r=none:=h.elim (·.2) λh=>absurd h.1 a
theorem Rs.val{r:Option α}(h:Rs r e P)(b:¬e≠0):e=0/\∃a,r=some a/\P a:=h.elim (λh=>absurd h.1 b) id
theorem Rs.no{r:Option α}(a:e≠0)(h:r=none):Rs r e P:=.inl ⟨a,h⟩
theorem Rs.yes{r:Option α}(a:α)(h:r=some a)(b:P a):Rs r 0 P:=.inr ⟨rfl,a,h,b⟩
def PoR(r:Option Po)(u:Value)(M':Mem):Prop:=∃(y:V5)(g r1 n e:Int),u=.tuple #[.agg (Bo y g r1 n).toArray,.int .i64 e]/\Rs r e λq=>PW M' y q/\g=q.gen/\r1=q.root/\n=q.next
variable{u:Value}
theorem PoP.r{r:Except Int Po}(h:PoP r u M')(hk:∀q,r=.ok q->q.dead.length<=1000000/\0<=q.next/\q.next<4294967296):PoR r.toOption u M':=by
 obtain⟨y,g,a,n,e,rfl,f⟩:=h.q;refine⟨y,g,a,n,e,rfl,?_⟩;rcases f with⟨j,rfl⟩|⟨rfl,q,rfl,d,i⟩
 ·exact .no j rfl
 obtain⟨c,b⟩:=hk q rfl;exact .yes q rfl ⟨⟨d,c,b⟩,i⟩
theorem wTu{p q:Po}{v:Vo}(h:Ez p v=.ok q):q.dead=p.dead/\q.next=p.next:=by
 unfold Ez at h;split at h
 ·split at h
  ·cases h
  split at h
  ·cases h;exact⟨rfl,rfl⟩
  cases h
 cases h
variable{f:Sto->Except Int (Sto×Int)}
theorem wQy{p r:Po}{v:Vo}(h:P7 (DP p v f)=.ok r):r.dead=p.dead/\r.next=p.next:=by
 have h:=P6 h;unfold DP UD at h;split at h
 ·cases h
 unfold ZQ at h;split at h
 ·cases h
 unfold UM at h;split at h
 ·cases h
 rename_i q a;have:=wTu a;unfold Yz at h;split at h
 ·cases h
 cases h;exact this
theorem wSi{p r:Po}{q:Int}{x:It}(h:HW p q x=.ok r):r.dead=p.dead/\r.next=p.next:=by
 unfold HW at h;split at h
 ·split at h
  ·split at h
   ·cases h
   exact wQy h
  cases h
 cases h
variable{k:Ky}
theorem wSn{p r:Po}{q:Int}(h:NH p q k=.ok r):r.dead=p.dead/\r.next=p.next:=by
 unfold NH at h;split at h
 ·exact wQy h
 cases h
theorem wAy{p r:Po}{x:V5}(h:PW M x p)(a:r.dead=p.dead/\r.next=p.next):r.dead.length<=1000000/\0<=r.next/\r.next<4294967296:=by rw[a.1,a.2];exact⟨h.dead,h.next⟩
theorem G2(p:Po)(x:V5)(M:Mem)(h:PW M x p)(q:Int)(e:0<=q/\q<4294967296)(a:It)(b:Value)(d:BS M b a.val)(hk:Bj a.key):
  SpecL prog 174 #[.agg (Bo x p.gen p.root p.next).toArray,.int .u32 q,.agg #[.int .u8 a.key.kind,.int .u32 a.key.id,.int .u32 a.key.off,.int .i64 a.ref,b]] M [] λu M' g=>PoR (EQ p q a) u M'/\g=[]:=
 (wCv p x M h.pt h.dead q e a b d hk).mono λ_ _ _ c=>⟨c.1.r λ_ f=>wAy h (wSi f),c.2⟩
theorem Nz(p:Po)(x:V5)(M:Mem)(h:PW M x p)(q:Int)(b:0<=q/\q<4294967296)(k:Ky):
  SpecL prog 285 #[.agg (Bo x p.gen p.root p.next).toArray,.int .u32 q,.agg (AA k).toArray] M [] λu M' d=>PoR (PO p q k) u M'/\d=[]:=
 (wDb p x M h.pt h.dead q b k).mono λ_ _ _ a=>⟨a.1.r λ_ c=>wAy h (wSn c),a.2⟩
structure Pc where
 blk:Int
 fr:Int
 to:Int
def RE(a n:Int)(k:Nat):List Pc:=if max (a-k*128) 0<min (a+n-k*128) 128 then [⟨k,max (a-k*128) 0,min (a+n-k*128) 128⟩]else []
def E6(a n:Int)(m:Nat):List Pc:=(range m).flatMap (RE a n)
def HP(a n:Int):Option (List Pc):=if a<0\/4096<a\/n<0\/4096-a<n then none else some (E6 a n 32)
def U7(x:Pc):Int:=if x.blk<0\/32<=x.blk\/x.fr<0\/x.to<=x.fr\/128<x.to then 8 else 0
def HT(b:List By):Option (List By):=if b.length=0 then some (List.replicate 128 0)else if b.length=128 then some b else none
def WZ(b:List By)(x:Pc):Option (List By):=(HT b).bind λb=>if U7 x=0 then some ((b.drop x.fr.toNat).take (x.to-x.fr).toNat)else none
def V3(b:List By)(x:Pc)(d:List By):Option (List By):=(HT b).bind λb=>if U7 x=0/\(d.length:Int)=x.to-x.fr then some (b.take x.fr.toNat++d++b.drop x.to.toNat)else none
def Eo(n:Int):Prop:=0<=n/\n<=4096
instance(n:Int):Decidable (Eo n):=by unfold Eo;exact inferInstance
def HK(p:Po)(v id:Int):Option Ino:=(De p v id).bind λx=>if x.dir then none else some x
def HD(p:Po)(v id:Int)(f:Ino->Option (Po×Int)):Option Po:=(HK p v id).bind λx=>
 if BG p v=0/\(As p v).frz=false then (f x).bind λq=>if x.size<q.2 then FR q.1 v { x with size:=q.2 } else some q.1 else none
def SQ(p:Po)(v id:Int)(a:Option (List By))(x:Pc):Option (List By):=a.bind λo=>(Fg p v id x.blk).bind λb=>(WZ b x).map λc=>o++c
def K5(p:Po)(v id a n:Int):Option (List By):=if Eo a/\Eo n then (HK p v id).bind λx=>(HP (min a x.size) (min n (x.size-min a x.size))).bind λl=>l.foldl (SQ p v id) (some [])else none
def Mx(v id:Int)(a:Option (Po×List By))(x:Pc):Option (Po×List By):=a.bind λo=>(Fg o.1 v id x.blk).bind λb=>(V3 b x (o.2.take (x.to-x.fr).toNat)).bind λc=>(Ek o.1 v id x.blk c).map λq=>(q,o.2.drop (x.to-x.fr).toNat)
def Gk(p:Po)(v id a:Int)(d:List By):Option Po:=(HP a d.length).bind λl=>HD p v id λ_=>if d=[]then some (p,0)else (l.foldl (Mx v id) (some (p,d))).map λo=>(o.1,a+d.length)
def Gx(p:Po)(v id:Int)(x:Pc)(always:Bool):Option Po:=(Fg p v id x.blk).bind λb=>
 if always=false/\((b.drop x.fr.toNat).take (x.to-x.fr).toNat).all (· =0)then some p else (V3 b x (List.replicate (x.to-x.fr).toNat 0)).bind λc=>Ek p v id x.blk c
def wQq(v id:Int)(refs:List Int)(a:Option Po)(n:Nat):Option Po:=a.bind λp=>if refs.getD n 0≠0 then FT p v id n else some p
def HY(p:Po)(v id size:Int):Option Po:=if size<0\/4096<size then none else (DV p v id).bind λrefs=>
 (((range 32).drop ((size+127) / 128).toNat).foldl (wQq v id refs) (some p)).bind λq=>
 if 0<size%128/\refs.getD (((size+127) / 128).toNat-1) 0≠0 then Gx q v id ⟨(size+127) / 128-1,size%128,128⟩ false else some q
def wEp(v id:Int)(refs:List Int)(a:Option Po)(x:Pc):Option Po:=a.bind λp=>
 if refs.getD x.blk.toNat 0=0 then some p else if x.to-x.fr=128 then FT p v id x.blk else Gx p v id x true
def SF(p:Po)(v id a b:Int):Option Po:=if a<0\/b<a then none else (HP a (b-a)).bind λl=>(DV p v id).bind λrefs=>l.foldl (wEp v id refs) (some p)
def Rb(p:Po)(v id n:Int):Option Po:=if Eo n then HD p v id λx=>if x.size<=n then some (p,n)else (HY p v id n).bind λq=>(FR q v { x with size:=n }).map λr=>(r,0)else none
def Xc(p:Po)(v id a b:Int):Option Po:=if Eo a/\Eo b/\a<=b then HD p v id λx=>if min b x.size<=a then some (p,0)else (SF p v id a (min b x.size)).map λr=>(r,0)else none
def wEq(p:Po)(k:Int):Option Po:=(T2 p k).toOption
def Kv(a:Option Po)(k:Int):Option Po:=a.bind λp=>if k=0 then some p else wEq p k
def wEw(v id:Int)(p:Po)(b k:Int):Option Po:=if k=0 then FT p v id b else EQ p v ⟨HL id b,k,[]⟩
def We(v id b:Int)(a:Option (Po×Int))(k:Int):Option (Po×Int):=a.bind λo=>(wEw v id o.1 (b+o.2) k).map λq=>(q,o.2+1)
def HJ(a n:Int):Prop:=0<=a/\a<=32/\0<=n/\n<=32-a
instance(a n:Int):Decidable (HJ a n):=by unfold HJ;exact inferInstance
def LD(p:Po)(v1 i1 b:Int)(v id a n:Int):Option Po:=if HJ b n/\HJ a n then (DV p v1 i1).bind λrefs=>(DV p v id).bind λ_=>
 (((refs.drop b.toNat).take n.toNat).foldl Kv (some p)).bind λq=>(((refs.drop b.toNat).take n.toNat).foldl (We v id a) (some (q,0))).map (·.1)else none
def W7(p:Po)(v1 i1 b v id a n:Int):Option Po:=
 if Eo b/\Eo a/\Eo n/\Eo (b+n)/\Eo (a+n)/\b%128=0/\a%128=0/\n%128=0 then (HK p v1 i1).bind λ_=>
 HD p v id λ_=>if n=0 then some (p,0)else (LD p v1 i1 (b / 128) v id (a / 128) (n / 128)).map λq=>(q,a+n)else none
def Vf(p:Po)(v:Int)(a:Option Ino)(s:List By):Option Ino:=a.bind λx=>if x.dir then (LN p v x.id s).bind λi=>De p v i else none
def Fa(p:Po)(v:Int)(l:List (List By)):Option Ino:=if BG p v=0 then l.foldl (Vf p v) (De p v 1)else none
def Fe(p:Po)(v id:Int)(s:List By)(same:Bool):Bool:=match ML p v id s with
 |none=>false
 |some l=>(E5 l.1 s).isNone&&(decide (l.1.length<32)||same)
def Gv(p:Po)(v id:Int)(s:List By):Option Ino:=(LN p v id s).bind λi=>De p v i
def LL(p:Po)(v id:Int)(s:List By)(dir:Bool):Option (Po×Int):=if Fe p v id s false then (Jh p v dir).bind λq=>(HC q.1 v id s q.2).map λr=>(r,q.2)else none
def NX(p:Po)(v1 i1 v id:Int)(s:List By):Option Po:=(De p v1 i1).bind λx=>if x.dir=false/\Fe p v id s false/\v1=v/\x.links<65535 then (HC p v id s x.id).bind λq=>FR q v1 { x with links:=x.links+1 } else none
def Sd(p:Po)(v id:Int)(s:List By):Option Po:=(Gv p v id s).bind λx=>if x.dir then none else (Ey p v id s).bind λq=>
 if 1<x.links then FR q v { x with links:=x.links-1 } else (HY q v x.id 0).bind λr=>Ji r v x.id
def VM(p:Po)(v id:Int)(s:List By):Option Po:=(Gv p v id s).bind λx=>if x.dir then (DT p v x.id).bind λl=>if l.1=[]then (Ey p v id s).bind λq=>Ji q v x.id else none else none
variable{d:List By}{k:Int}
theorem wNe{p q:Po}(h:Nl p d=.ok (q,k)):∃t,HZ p.st (TX d)=.ok (t,k)/\q=Fb p t/\d.length<=128:=by
 unfold Nl at h;cases a:Hl p d with
 |error e=>rw[a]at h;cases h
 |ok x=>
  obtain⟨b,g⟩:=x
  rw[a]at h
  dsimp only at h
  have l:P7 (.ok b)=.ok q/\g=k:=by
   cases f:P7 (.ok b)with
   |error e=>rw[f]at h;cases h
   |ok m=>rw[f]at h;cases h;exact⟨rfl,rfl⟩
  obtain⟨j,rfl⟩:=l
  have i:=P6 j
  cases i
  unfold Hl at a
  split at a
  ·split at a
   ·cases a
   rename_i o
   cases c:HZ p.st (TX d)with
   |error e=>rw[c]at a;cases a
   |ok y=>obtain⟨t,n⟩:=y;rw[c]at a;cases a;exact⟨t,rfl,rfl,by omega⟩
  cases a
variable{α:Type}
theorem FE{r:Except Int α}{a:α}(h:r.toOption=some a):r=.ok a:=by cases r<;>simp_all [Except.toOption]
def u32(q:Int):Prop:=0<=q/\q<4294967296
def wVv(p:Po):Option Po:=(P7 (Lg p)).toOption
def Vx(p:Po)(v:Int)(f:Bool):Option Po:=(Vy p v f).toOption
def wVk(p:Po)(v:Int)(f:Bool):Option Po:=(wVm p v f).toOption
def VQ(p:Po)(v:Int):Option Po:=(VR p v).toOption
def rpO(p:Po):Option Po:=(wWt p).toOption
variable{k:Nat}{s:Sto}
theorem VL(h:Av s)(b:¬s.now.getD k 0=0):8<=k:=by
 rcases Nat.lt_or_ge k 8 with a|a
 ·exfalso;have d:=h.2.1.1;have c:=List.all_eq_true.1 h.2.1.2 s.now[k] (List.mem_take_iff_getElem.2 ⟨k,by omega,rfl⟩);exact b (by rw[List.getD_eq_getElem?_getD,List.getElem?_eq_getElem (by omega)];exact eq_of_beq c)
 exact a
theorem ZR(h:Cj s k=0):¬s.now.getD k 0=0:=λe=>by unfold Cj at h;rw[if_pos e]at h;cases h
theorem wJk(h:Bl s k=0):¬s.now.getD k 0=0:=λe=>by unfold Bl at h;rw[if_pos e]at h;cases h
theorem wJd(h:Av s)(hk:8<=k):Av (Bb s k):=⟨h.1,G1 hk h.2.1,h.2.2⟩
theorem Hi:∀{xs:List It}{s t:Sto},Av s->C4 xs s=some t->Av t
 |[],s,t,h,e=>by cases e;exact h
 |x::xs,s,t,h,e=>by
  rw[C4]at e;split at e
  ·exact Hi h e
  split at e
  ·rename_i a;exact Hi (C2 h (VL h (ZR a))) e
  cases e
theorem Wp{f:List By}:∀{n:Nat}{s t:Sto}{st:List (Int×Int)},Av s->MQ f n s st=some t->Av t
 |0,s,t,[],h,e=>by cases e;exact h
 |n+1,s,t,[],h,e=>by cases e;exact h
 |0,s,t,_::_,h,e=>by cases e
 |n+1,s,t,(k,l)::st,h,e=>by
  rw[MQ]at e;split at e
  ·cases e
  rename_i a;split at e
  ·exact Wp (C2 h (VL h a)) e
  split at e
  ·cases e
  split at e
  ·cases e
  split at e
  ·exact Wp (Fx h (VL h a)) e
  split at e
  ·cases e
  rename_i c b;exact Wp (Hi (Fx h (VL h a)) b) e
theorem wAc{t:Sto}{r:Int}(h:Av s)(e:Df s r=some t):Av t:=Wp h e
theorem wBq{t:Sto}{k:Int}(e:Kz s k=.ok t):Av t:=by
 unfold Kz at e;split at e
 ·rename_i h;unfold lvS at e;split at e
  ·cases e
  cases e;rename_i a;exact wAc (U4 h).1 a
 cases e
theorem wKb{t:Sto}{k:Int}(e:Kx s k=.ok t):Av t:=by
 unfold Kx at e;split at e
 ·rename_i h;cases e;have:=U4 h;exact C2 this.1 (by omega)
 cases e
theorem wKn{t:Sto}{k:Int}(e:KK s k=.ok t):Av t:=by
 unfold KK at e;split at e
 ·rename_i h;split at e
  ·cases e
  cases e;have:=U4 h;exact wJd this.1 (by omega)
 cases e
variable{l:List It}{lv:Int}
theorem mk_st{t:Sto}(h:Av t)(e:KS t lv l=0):Av (EM t lv l):=by
 unfold KS at e;split at e
 ·rename_i a;split at e
  ·split at e
   ·cases e
   have:=wBw (Am t l) 248 8;have:=h.1.2.1;exact Jc h a (by unfold BH at *;omega) (by omega)
  rename_i b;exact absurd e b
 cases e
theorem wHv{t u:Sto}{held a:Int}(h:Av t)(e:Dj t lv l held=.ok (u,a)):Av u:=by
 unfold Dj at e;split at e
 ·rename_i c;have b:=mk_st h c;split at e
  ·split at e
   ·rename_i d;cases e;exact C2 b (VL b (ZR d))
   cases e
  cases e;exact b
 cases e
variable{l0:List It}
theorem wKf(h:Av s):∀{c:List Stp}{t:Sto}{l:List It}{b:Int},dn s l0 c=.ok (t,l,b)->Av t
 |[],t,l,b,e=>by cases e;exact h
 |w::c,t,l,b,e=>by
  rw[dn]at e;split at e
  ·cases e
  rename_i f g i a;have d:=wKf h a;unfold wSq at e;split at e
  ·cases e;exact d
  split at e
  ·cases e
  cases e;rename_i hs;exact wHv d hs
theorem wJw:∀{n:Nat}{t u:Sto}{r a:Int},Av t->Es n t r=.ok (u,a)->Av u
 |0,t,u,r,a,h,e=>by cases e;exact h
 |n+1,t,u,r,a,h,e=>by
  rw[Es]at e;split at e
  ·cases e
  split at e
  ·cases e;exact h
  split at e
  ·split at e
   ·rename_i c;split at e
    ·cases e
    rename_i b;exact wJw (wAc (wJd h (VL h (wJk c))) b) e
   cases e
  cases e;exact h
theorem wKd{t:Sto}{root n:Int}{q:Ky}(e:MH s root q=.ok (t,n)):Av t:=by
 unfold MH at e;split at e
 ·rename_i j;have a:=(CW j).1;split at e
  ·cases e
  split at e
  ·cases e
  unfold MG at e;cases d:dn s (Gg (AE s q _ _)) (AE s q _ _).dropLast with
  |error k=>rw[d]at e;cases e
  |ok x=>
   obtain⟨h,f,l⟩:=x
   rw[d]at e
   unfold Uy at e
   dsimp only at e
   cases c:Dj h (if f=[]then 0 else _) f l with
   |error k=>rw[c]at e;cases e
   |ok y=>
    obtain⟨g,m⟩:=y
    rw[c]at e
    unfold wQj at e
    dsimp only at e
    cases b:Es 7 g m with
    |error k=>rw[b]at e;cases e
    |ok z=>
     obtain⟨o,u⟩:=z
     rw[b]at e
     unfold Ld at e
     dsimp only at e
     split at e
     ·cases e
     cases e
     rename_i i
     exact wAc (wJw (wHv (wKf a d) c) b) i
 cases e
theorem wBd{q r:Po}{x:Except Int Sto}(e:Yz q x=.ok r):∃t,x=.ok t/\r=⟨t,q.gen,q.root,q.next,q.dead⟩:=by
 unfold Yz at e;split at e
 ·cases e
 cases e;exact⟨_,rfl,rfl⟩
theorem wEt{p r:Po}{v:Vo}{f:Sto->Except Int (Sto×Int)}(h:P7 (DP p v f)=.ok r):Av r.st:=by
 have h:=P6 h;unfold DP UD at h;split at h
 ·cases h
 unfold ZQ at h;split at h
 ·cases h
 unfold UM at h;split at h
 ·cases h
 obtain⟨t,a,rfl⟩:=wBd h;exact wBq a
theorem wAu{p r:Po}{q:Int}{x:It}(h:HW p q x=.ok r):Av r.st:=by
 unfold HW at h;split at h
 ·split at h
  ·split at h
   ·cases h
   exact wEt h
  cases h
 cases h
theorem wJx{p r:Po}{q:Int}{k:Ky}(h:NH p q k=.ok r):Av r.st:=by
 unfold NH at h;split at h
 ·exact wEt h
 cases h
def Fh(p:Po)(_:List Int):Prop:=Av p.st/\p.dead.length<=40/\0<=p.next/\p.next<4294967296
variable{hs:List Int}
theorem Fh.as{p r:Po}{a:List Int}(h:Fh p hs)(c:Av r.st)(b:r.dead=p.dead/\r.next=p.next):Fh r a:=⟨c,by rw[b.1,b.2];exact h.2⟩
section
variable{p r:Po}{hs:List Int}{q v id:Int}{x:It}
theorem Fh.put0(h:Fh p hs)(b:u32 q)(hk:Bj x.key)(c:x.ref=0)(a:EQ p q x=some r):Fh r hs:=h.as (wAu (FE a)) (wSi (FE a))
theorem Fh.put1(h:Fh p (x.ref::hs))(b:u32 q)(hk:Bj x.key)(a:EQ p q x=some r):Fh r hs:=h.as (wAu (FE a)) (wSi (FE a))
theorem Fh.del{k:Ky}(h:Fh p hs)(b:u32 q)(a:PO p q k=some r):Fh r hs:=h.as (wJx (FE a)) (wSn (FE a))
theorem Fh.lay{d:List By}{k:Int}(h:Fh p [])(a:(Nl p d).toOption=some (r,k)):Fh r [k]:=by
 obtain⟨t,c,rfl,b⟩:=wNe (FE a);exact h.as (wSt c (H5 b)) ⟨rfl,rfl⟩
theorem Fh.share{k:Int}(h:Fh p hs)(a:wEq p k=some r):Fh r (k::hs):=by
 have a:=FE a;unfold T2 at a;split at a
 ·split at a
  ·cases a
  cases a;rename_i t b;exact h.as (wKn b) ⟨rfl,rfl⟩
 cases a
theorem Fh.perm{a:List Int}(h:Fh p hs)(b:hs.Perm a):Fh p a:=h
end
theorem Fh.st{p:Po}(h:Fh p hs):Av p.st:=h.1
theorem Fh.nx{p:Po}(h:Fh p hs):p.dead.length<=1000000/\0<=p.next/\p.next<4294967296:=⟨by have:=h.2.1;omega,h.2.2⟩
theorem Fh.create{p r:Po}(h:Fh p [])(a:wVv p=some r):Fh r []:=by
 have a:=P6 (FE a);obtain⟨c,b⟩:=EO a;unfold Lg at a;split at a
 ·cases a
 split at a
 ·cases a
 unfold wVw at a;split at a
 ·cases a
 have:=(wTu a).2;dsimp only at this;have d:=h.2.2;exact⟨b,by rw[c];exact h.2.1,by omega,by omega⟩
variable{f:Bool}
theorem Fh.snap{p r:Po}{v:Int}(h:Fh p [])(n:u32 v)(b:Vx p v f=some r):Fh r []:=by
 have b:=FE b;unfold Vy at b;split at b
 ·cases b
 rename_i g;have b:=P6 b;unfold Pj at b;split at b
 ·cases b
 rename_i q d;unfold Wf at d;split at d
 ·cases d
 rename_i m a;cases d;unfold Hq at a;split at a
 ·cases a
 rename_i l c;unfold Hr at c;split at c
 ·rename_i j;cases c;split at a
  ·cases a
  cases a;have e:=LG b;have i:=(wTu b).2;dsimp only at e i;have o:=h.2.2;have:¬p.next=4294967295:=λk=>g ⟨j,.inr k⟩;exact⟨e.2,by rw[e.1];exact h.2.1,by omega,by omega⟩
 cases c
theorem Fh.freeze{p r:Po}{v:Int}(h:Fh p [])(j:u32 v)(c:wVk p v f=some r):Fh r []:=by
 have c:=P6 (FE (r:=wVm p v f) c);unfold wGx at c;split at c
 ·cases c
 rename_i q d;obtain⟨t,e,rfl⟩:=wBd c;unfold Pj at d;split at d
 ·cases d
 rename_i i a;unfold Hq at a;split at a
 ·cases a
 rename_i g b;unfold Hr at b;split at b
 ·cases b;split at a
  ·cases a
  cases a;have:=wTu d;dsimp only at this;exact h.as (wBq e) this
 cases b
theorem Fh.delete{p r:Po}{v:Int}(h:Fh p [])(a:VQ p v=some r):Fh r []:=by
 have a:=FE a;unfold VR at a;split at a
 ·rename_i d;split at a
  ·cases a
  unfold rdeN at a;split at a
  ·cases a
  rename_i f q c;cases a;unfold Vm at c;rw[if_pos d]at c;cases b:MH p.st p.root (wGb v)with
  |error e=>rw[b]at c;cases c
  |ok y=>
   rw[b]at c;cases c
   exact⟨wKd (n:=y.2) b,by show (p.dead++_).length<=40;rw[List.length_append,List.length_singleton];omega,h.2.2⟩
 cases a
variable{g:Bool}
theorem wJo:∀{xs:List It}{a:Except Int (Sto×List Int)}{s:Sto}{d:List Int},(∀t e,a=.ok (t,e)->Av t)->xs.foldl (SO lv g) a=.ok (s,d)->Av s
 |[],a,s,d,h,e=>h _ _ e
 |x::xs,a,s,d,h,e=>by
  rw[foldl_cons]at e;refine wJo (λt f b=>?_) e;unfold SO at b;split at b
  ·cases b
  split at b
  ·cases b;exact h _ _ rfl
  split at b
  ·cases b;exact h _ _ rfl
  split at b
  ·cases b
  cases b;rename_i c;exact wKb c
theorem Fh.reap{p r:Po}(h:Fh p [])(a:rpO p=some r):Fh r []:=by
 have a:=FE a;unfold wWt at a;split at a
 ·rename_i b;split at a
  ·cases a
  rename_i c;have i:=(wAi b c).2.1;unfold wTg at a;split at a
  ·cases a
  rename_i s d f;split at a
  ·cases a
  cases a;exact⟨wJo (λt e g=>by cases g;exact C2 h.1 (by omega)) f,by show d.length<=40;omega,h.2.2⟩
 cases a
theorem Hm:Fh G3 []:=⟨(wPi wLy).1.st,by decide,by decide,by decide⟩
variable{p r:Po}{hs:List Int}{q v id:Int}{x:It}
theorem wNy{x:Ino}(h:inoE x=0):1<=x.id/\x.id<=1048576:=by unfold inoE at h;split at h<;>omega
variable{i:Int}
theorem Fp(h:u32 i):Bj (FZ i):=⟨by unfold FZ;dsimp only;omega,h,by unfold FZ;dsimp only;omega⟩
theorem Fh.iput{x:Ino}(h:Fh p hs)(b:u32 v)(a:FR p v x=some r):Fh r hs:=by
 unfold FR at a;split at a
 ·rename_i c;exact h.put0 b (Fp (by have:=wNy c;unfold u32;omega)) rfl a
 cases a
theorem HX:u32 0:=by unfold u32;omega
variable{n:Int}
theorem Fh.next(h:Fh p hs)(a:u32 v)(b:EQ p v (S4 n)=some r):Fh r hs:=h.put0 a (Fp HX) rfl b
theorem Fh.root(h:Fh p hs)(b:u32 id)(a:NU p id=some r):Fh r hs:=by
 unfold NU at a;obtain⟨l,_,a⟩:=Option.bind_eq_some_iff.1 a;split at a
 ·obtain ⟨q,c,a⟩:=Option.bind_eq_some_iff.1 a;exact(h.put0 b (Fp (by unfold u32;decide)) rfl c).next b a
 cases a
variable{d:Bool}
theorem Fh.inew(h:Fh p hs)(b:u32 v)(a:Jh p v d=some (r,n)):Fh r hs:=by
 unfold Jh at a;obtain⟨i,_,a⟩:=Option.bind_eq_some_iff.1 a;split at a
 ·cases a
 obtain⟨q,e,a⟩:=Option.bind_eq_some_iff.1 a;obtain⟨f,c,a⟩:=Option.map_eq_some_iff.1 a;cases a;exact(h.put0 b (Fp (by unfold u32;dsimp only;omega)) rfl e).next b c
variable{s:List By}
theorem Fh.add(h:Fh p hs)(b:u32 v)(c:u32 id)(a:HC p v id s n=some r):Fh r hs:=by
 unfold HC at a;obtain⟨l,_,a⟩:=Option.bind_eq_some_iff.1 a;split at a
 ·cases a
 refine h.put0 b (x:=⟨RZ id (HI l.2),0,PA 4 n++s⟩) ⟨by unfold RZ;dsimp only;omega,c,?_⟩ rfl a;have:HI l.2<=l.2.length:=by
  unfold HI;cases d:(range l.2.length).find? λ(n:Nat)=>decide (l.2.getD n 0≠(n:Int))with
  |none=>exact Nat.le_refl _
  |some m=>exact Nat.le_of_lt (List.mem_range.1 (List.mem_of_find?_eq_some d))
 unfold RZ;dsimp only;omega
theorem Fh.take(h:Fh p hs)(b:u32 v)(a:Ey p v id s=some r):Fh r hs:=by
 unfold Ey at a;obtain⟨l,_,a⟩:=Option.bind_eq_some_iff.1 a;obtain⟨k,_,a⟩:=Option.bind_eq_some_iff.1 a;exact h.del b a
variable{b:Int}
theorem Ut(h:Uu id b=0):(1<=id/\id<=1048576)/\0<=b/\b<32:=by unfold Uu at h;split at h<;>omega
theorem Zy(h:Uu id b=0):Bj (HL id b):=by have:=Ut h;unfold HL Bj;dsimp only;omega
theorem Fh.exw{d:List By}(h:Fh p [])(c:u32 v)(a:Ek p v id b d=some r):Fh r []:=by
 unfold Ek at a;split at a
 ·rename_i f;obtain⟨⟨q,k⟩,e,a⟩:=Option.bind_eq_some_iff.1 a;exact(h.lay e).put1 (x:=⟨HL id b,k,[]⟩) c (Zy f.1) a
 cases a
theorem Fh.exd(h:Fh p hs)(c:u32 v)(a:FT p v id b=some r):Fh r hs:=by
 unfold FT at a;obtain⟨l,_,a⟩:=Option.bind_eq_some_iff.1 a;split at a
 ·cases a;exact h
 exact h.del c a
variable{σ:Type}
theorem Fw{α:Type}{f:Option σ->α->Option σ}(a:∀x,f none x=none):∀l:List α,l.foldl f none=none
 |[]=>rfl
 |x::l=>by rw[foldl_cons,a];exact Fw a l
variable{I:σ->Prop}
theorem My{α:Type}{f:Option σ->α->Option σ}(g:∀x,f none x=none)(hs:∀a x b,I a->f (some a) x=some b->I b):∀{l:List α}{a b:σ},I a->l.foldl f (some a)=some b->I b
 |[],a,b,d,h=>by cases h;exact d
 |x::l,a,b,d,h=>by
  rw[foldl_cons]at h;cases e:f (some a) x with
  |none=>
   rw[e]at h
   rw[Fw g]at h;cases h
  |some c=>rw[e]at h;exact My g hs (hs _ _ _ d e) h
theorem Fh.turn{f:Ino->Option (Po×Int)}(d:u32 v)(b:∀x q n,f x=some (q,n)->Fh q [])(a:HD p v id f=some r):Fh r []:=by
 unfold HD at a;obtain⟨x,_,a⟩:=Option.bind_eq_some_iff.1 a;split at a
 ·obtain ⟨⟨q,n⟩,c,a⟩:=Option.bind_eq_some_iff.1 a;dsimp only at a;split at a
  ·exact (b _ _ _ c).iput d a
  cases a;exact b _ _ _ c
 cases a
variable{a:Int}
theorem Fh.write{d:List By}(h:Fh p [])(i:u32 v)(g:Gk p v id a d=some r):Fh r []:=by
 unfold Gk at g;obtain⟨l,_,g⟩:=Option.bind_eq_some_iff.1 g;refine Fh.turn i (λx q n f=>?_) g;split at f
 ·cases f;exact h
 obtain⟨o,m,f⟩:=Option.map_eq_some_iff.1 f;cases f;refine My (I:=λo:Po×List By=>Fh o.1 []) (λx=>rfl) (λa x b j c=>?_) h m;obtain⟨_,e,c⟩:=Option.bind_eq_some_iff.1 c;cases e;obtain⟨_,_,c⟩:=Option.bind_eq_some_iff.1 c;obtain⟨_,_,c⟩:=Option.bind_eq_some_iff.1 c;obtain⟨q,k,c⟩:=Option.map_eq_some_iff.1 c;cases c;exact Fh.exw j i k
variable{al:Bool}
theorem Fh.blank{x:Pc}(h:Fh p [])(b:u32 v)(a:Gx p v id x al=some r):Fh r []:=by
 unfold Gx at a;obtain⟨_,_,a⟩:=Option.bind_eq_some_iff.1 a;split at a
 ·cases a;exact h
 obtain⟨_,_,a⟩:=Option.bind_eq_some_iff.1 a;exact h.exw b a
theorem Fh.tcut(h:Fh p [])(i:u32 v)(d:HY p v id n=some r):Fh r []:=by
 unfold HY at d;split at d
 ·cases d
 obtain⟨g,_,d⟩:=Option.bind_eq_some_iff.1 d;obtain⟨q,l,d⟩:=Option.bind_eq_some_iff.1 d;have j:Fh q []:=My (I:=λq=>Fh q []) (λx=>rfl) (λa x b k f=>by
  obtain⟨c,e,f⟩:=Option.bind_eq_some_iff.1 f;cases e;split at f
  ·exact k.exd i f
  cases f;exact k) h l
 split at d
 ·exact j.blank i d
 cases d;exact j
theorem Fh.tpun(h:Fh p [])(i:u32 v)(d:SF p v id a b=some r):Fh r []:=by
 unfold SF at d;split at d
 ·cases d
 obtain⟨_,_,d⟩:=Option.bind_eq_some_iff.1 d;obtain⟨_,_,d⟩:=Option.bind_eq_some_iff.1 d;refine My (I:=λq=>Fh q []) (λx=>rfl) (λa x b g f=>?_) h d;obtain⟨c,e,f⟩:=Option.bind_eq_some_iff.1 f;cases e;split at f
 ·cases f;exact g
 split at f
 ·exact g.exd i f
 exact g.blank i f
theorem Fh.size(h:Fh p [])(c:u32 v)(b:Rb p v id n=some r):Fh r []:=by
 unfold Rb at b;split at b
 ·refine Fh.turn c (λx q m a=>?_) b;split at a
  ·cases a;exact h
  obtain⟨g,e,a⟩:=Option.bind_eq_some_iff.1 a;obtain⟨f,d,a⟩:=Option.map_eq_some_iff.1 a;cases a;exact(h.tcut c e).iput c d
 cases b
theorem Fh.punch(h:Fh p [])(e:u32 v)(d:Xc p v id a b=some r):Fh r []:=by
 unfold Xc at d;split at d
 ·refine Fh.turn e (λx q m c=>?_) d;split at c
  ·cases c;exact h
  obtain⟨g,f,c⟩:=Option.map_eq_some_iff.1 c;cases c;exact h.tpun e f
 cases d
variable{l:List Int}
theorem wPb:∀{p r:Po}{hs:List Int},Fh p hs->l.foldl Kv (some p)=some r->Fh r (l.filter (· ≠0)++hs):=by
 induction l with
 |nil=>intro p r hs h a;cases a;exact h
 |cons k l d=>
  intro p r hs h a
  rw[foldl_cons,show Kv (some p) k=if k=0 then some p else wEq p k from rfl]at a
  by_cases c:k=0
  ·subst c;rw[if_pos rfl]at a;exact d h a
  rw[if_neg c]at a
  cases b:wEq p k with
  |none=>rw[b,Fw λ_=>rfl]at a;cases a
  |some q=>
   rw[b]at a
   refine(d (h.share b) a).perm ?_
   rw[List.filter_cons_of_pos (by simpa using c),List.cons_append]
   exact List.perm_middle
theorem wAx(e:u32 v)(g:1<=id/\id<=1048576)(m:0<=b):∀{l:List Int}{p:Po}{i:Int}{o:Po×Int},0<=i->b+i+l.length<=32->Fh p (l.filter (· ≠0))->l.foldl (We v id b) (some (p,i))=some o->Fh o.1 []
 |[],p,i,o,_,_,h,a=>by cases a;exact h
 |k::l,p,i,o,w,s,h,a=>by
  rw[foldl_cons]at a;rw[List.length_cons]at s;cases d:We v id b (some (p,i)) k with
  |none=>
   rw[d,Fw λ_=>rfl]at a;cases a
  |some q=>
   rw[d]at a
   obtain⟨q,j⟩:=q
   unfold We at d
   rw[Option.bind_some]at d
   obtain⟨u,c,n⟩:=Option.map_eq_some_iff.1 d
   cases n
   refine wAx e g m (by omega) (by omega) ?_ a
   unfold wEw at c
   by_cases f:k=0
   ·subst f;rw[if_pos rfl]at c;exact Fh.exd h e c
   rw[if_neg f]at c
   rw[List.filter_cons_of_pos (by simpa using f)]at h
   exact Fh.put1 (x:=⟨HL id (b+i),k,[]⟩) h e (by unfold HL Bj;dsimp only;omega) c
variable{i1 v1:Int}
theorem Fh.clone(h:Fh p [])(i:u32 v)(c:LD p v1 i1 b v id a n=some r):Fh r []:=by
 unfold LD at c;split at c
 ·rename_i f;obtain⟨e,_,c⟩:=Option.bind_eq_some_iff.1 c;obtain⟨_,d,c⟩:=Option.bind_eq_some_iff.1 c;obtain⟨q,l,c⟩:=Option.bind_eq_some_iff.1 c;obtain⟨o,k,rfl⟩:=Option.map_eq_some_iff.1 c;have j:Uu id 0=0:=by unfold DV at d;split at d;assumption;cases d
  have g:=wPb h l;rw[List.append_nil]at g;refine wAx i (Ut j).1 f.2.1 (Int.le_refl 0) ?_ g k;have:=f.2;unfold HJ at this;rw[List.length_take];omega
 cases c
theorem Fh.shar(h:Fh p [])(e:u32 v)(c:W7 p v1 i1 b v id a n=some r):Fh r []:=by
 unfold W7 at c;split at c
 ·obtain ⟨_,_,c⟩:=Option.bind_eq_some_iff.1 c;refine Fh.turn e (λx q m d=>?_) c;split at d
  ·cases d;exact h
  obtain⟨g,f,d⟩:=Option.map_eq_some_iff.1 d;cases d;exact h.clone e f
 cases c
theorem Fh.make(h:Fh p hs)(b:u32 v)(c:u32 id)(a:LL p v id s d=some (r,n)):Fh r hs:=by
 unfold LL at a;split at a
 ·obtain ⟨⟨q,k⟩,f,a⟩:=Option.bind_eq_some_iff.1 a;obtain⟨g,e,a⟩:=Option.map_eq_some_iff.1 a;cases a;exact(h.inew b f).add b c e
 cases a
theorem Fh.link(h:Fh p hs)(b:u32 v)(c:u32 id)(a:NX p v1 i1 v id s=some r):Fh r hs:=by
 unfold NX at a;obtain⟨x,_,a⟩:=Option.bind_eq_some_iff.1 a;split at a
 ·rename_i e;obtain⟨q,d,a⟩:=Option.bind_eq_some_iff.1 a;exact(h.add b c d).iput (by rw[e.2.2.1];exact b) a
 cases a
theorem Fh.unlink(h:Fh p [])(b:u32 v)(a:Sd p v id s=some r):Fh r []:=by
 unfold Sd at a;obtain⟨x,_,a⟩:=Option.bind_eq_some_iff.1 a;split at a
 ·cases a
 obtain⟨q,c,a⟩:=Option.bind_eq_some_iff.1 a;split at a
 ·exact (h.take b c).iput b a
 obtain⟨e,d,a⟩:=Option.bind_eq_some_iff.1 a;exact((h.take b c).tcut b d).del b a
theorem Fh.remove(h:Fh p hs)(b:u32 v)(a:VM p v id s=some r):Fh r hs:=by
 unfold VM at a;obtain⟨x,_,a⟩:=Option.bind_eq_some_iff.1 a;split at a
 ·obtain ⟨l,_,a⟩:=Option.bind_eq_some_iff.1 a;split at a
  ·obtain ⟨q,c,a⟩:=Option.bind_eq_some_iff.1 a;exact(h.take b c).del b a
  cases a
 cases a
theorem wFa(a:List By)(y:By):wMd (a++[y])=ND .i64 (MK .i64 (wMd a) 8) (y.toNat:Int):=by simp[wMd]
theorem wNc(k:Nat)(n:Int):PA (k+1) n=PA k n++[bU (n / 256 ^ k)]:=by simp[PA,List.range_succ]
theorem Hk(k:Nat)(n:Int):(PA k n).length=k:=by simp[PA]
theorem shr8(n:Int)(k:Nat):D6 .i64 (n / 256 ^ k) 8=n / 256 ^ (k+1):=by
 unfold D6;rw[show (2:Int) ^ (min 8 IntKind.i64.bits)=256 by decide,Int.fdiv_eq_ediv_of_nonneg _ (by decide),Int.pow_succ,Int.ediv_ediv_of_nonneg (Int.pow_nonneg (by decide))]
theorem Wg(b:Option Addr)(c:Nat)(xs:List By)(M:Mem)(hs:SM M b (Aa xs))(w:xs.length<=1000000):
  SpecL prog 189 #[.slice b xs.length c] M [] λu M' s=>u=.int .i64 (Fc xs)/\s=[]:=by
 refine sB func189 ntmps189 ?_;intro W;refine gA λi=>?_;refine gC (bwb _ _ _ M) ?_;rintro _ o _ f ⟨k,rfl,j,rfl⟩;refine gh ?_;refine Ef (R:=[(i,cE [.int .i64 0] 3)]) (xs:=bw xs 0) (enc:=(λp:By×Nat=>[.int .i64 p.2,.int .u8 p.1.toNat])) (ps:=[8,9]) rfl (by kernel_rfl) (XF k b c xs o j (hs.mono f) (by omega))
  (λa _ R=>R=[(i,cE [.int .i64 (wMd (a.map (·.1)))] 3)])
  (λ_ _ _ _=>False)
  (λ_=>rfl) (by decide) rfl ?_ ?_ ?_
 ·intro l z a y n m e g h;subst g;refine gh ?_;refine jK λB=>?_;refine gh ?_;refine lq (DR rfl rfl rfl rfl (by omega) rfl) ?_;refine gh ?_;refine lq (ED rfl rfl rfl (by rw[IntKind.wrap_i64];have:=y.1.toNat_lt;omega)) ?_;refine lq (EW rfl rfl rfl rfl rfl) ?_;refine gh ?_;refine wJi ?_;grind[wFa]
 ·intro d n m e g;subst g;refine gh ?_;refine Bu (L2:=_) (List.Perm.refl _) ?_;refine gr ?_;exact⟨by rw[JB];rfl,rfl⟩
 grind
theorem FW(n:Int)(m:Nat)(C:m<=8)(M:Mem):
  SpecL prog 176 #[.int .i64 n,.int .i64 m] M [] λu M' B=>BS M' u (PA m n)/\B=[]:=by
 refine sB func176 ntmps176 ?_;intro W;refine gh ?_;refine CC (α:=Nat×Int×Value×Lc) (λx=>[(0,.int .i64 x.2.1),(5,x.2.2.1),(6,.int .i64 m),(7,.int .i64 (x.1:Int))]) (λ_=>M) (λx=>x.2.2.2) (λx=>x.1<=m/\x.2.1=n / 256 ^ x.1/\Own x.2.2.1 x.2.2.2 5 1 x.1 (Aa (PA x.1 n))) (λx=>m-x.1) (0,n,.slice none 0 0,[]) ⟨Nat.zero_le _,by show n=n / 256 ^ 0;simp,Own.nil _ _⟩ ?_;rintro⟨k,j,v,R⟩ ⟨l,f,d⟩;try dsimp only at l f d⊢
 refine gj (λw=>?_) λw=>?_
 ·refine gh ?_;refine lq (Bh (Bn rfl rfl rfl) (by rw[FA])) ?_;refine lh (Ab (cs:=[_]) rfl rfl rfl (by rfl) (by rfl) (by rfl)) ?_;rintro _ _ _ ⟨y,rfl,rfl,rfl⟩;refine lh (AY (R:=R) (m:=1) (news:=[.int .u8 ((bU j).toNat:Int)]) rfl rfl rfl rfl d rfl (λi v h=>CJ.loc (by simpa using h)) rfl rfl (by simp[Value.oneCell']) (by omega) (by decide)) ?_;rintro g _ _ ⟨rfl,z,rfl,b,_⟩;refine gh ?_;refine lq (DR rfl rfl rfl rfl (by omega) rfl) ?_;refine gh ?_;refine BD (k+1,D6 .i64 j (Int.toNat 8),g,z) ⟨by show k+1<=m;omega,by show D6 .i64 j 8=_;rw[f,shr8],by show Own _ _ _ _ _ (Aa (PA (k+1) n));rw[wNc,<-f];unfold Aa at b ⊢;rw[List.map_append];exact b⟩
 refine gh ?_;obtain rfl:k=m:=by omega
 refine BK d (by simp) ?_;intro D a c s e o hs;subst e;refine gr ?_;exact⟨⟨a,c,by rw[Hk],by rw[Hk];exact o,hs⟩,rfl⟩
theorem Dw(i:Int)(M:Mem):SpecL prog 104 #[.int .u32 i] M [] λu _ _=>u=.agg (AA (FZ i)).toArray:=by
 refine sB func104 ntmps104 ?_;intro W;refine gA λa=>?_;refine gr ?_;rfl
abbrev Sa(x:Ino):List Value:=[.int .u32 x.id,.bool x.dir,.int .i64 x.links,.int .i64 x.size]
theorem N0(x:Ino)(M:Mem):SpecL prog 203 #[.agg (Sa x).toArray] M [] λu _ _=>u=.int .i64 (inoE x):=by
 obtain⟨i,d,l,z⟩:=x;cases d;all_goals
  refine sB func203 ntmps203 ?_;intro W;refine gg ?_;refine lh (Bt (cs:=[.int .u32 i,.bool _,.int .i64 l,.int .i64 z]) rfl rfl rfl rfl) ?_;rintro _ _ _ ⟨a,rfl,rfl,rfl⟩;refine gg ?_;refine lq (Au rfl rfl rfl rfl (CJ.loc rfl)) ?_;iterate 6
   refine gj (λh=>?_) λh=>?_;refine gr ?_;grind[inoE]
  refine gr ?_;grind[inoE]
theorem QW(n:Int)(M:Mem):SpecL prog 107 #[.int .i64 n] M [] λu M' c=>(∃s:Sl,u=.agg #[.int .u8 2,.int .u32 0,.int .u32 0,.int .i64 0,s.v]/\BS M' s.v (PA 4 n))/\c=[]:=by
 refine sB func107 ntmps107 ?_;intro W;refine ga λd=>?_;refine gQ (Dw 0 M) ?_;refine gc (FW n 4 (by decide) M) ?_;rintro _ e b a;obtain⟨sl,rfl⟩:=a.sl;refine gr ?_;exact⟨⟨sl,rfl,a⟩,rfl⟩
theorem Za(p:Po)(x:V5)(M:Mem)(h:PW M x p)(q i:Int)(c:0<=q/\q<4294967296):SpecL prog 212 #[.agg (Bo x p.gen p.root p.next).toArray,.int .u32 q,.int .u32 i] M [] λu M' f=>PoR (Ji p q i) u M'/\f=[]:=by
 refine sB func212 ntmps212 ?_;intro W;refine Ke λd l=>?_;refine D7 [0,1,2,3,104,5,6,107,8] [(d,cE (Bo x p.gen p.root p.next) 32)] ?_;refine gg ?_;refine dq rfl (qC (Dw i _)) ?_;refine dh rfl (hC (Nz p x M h q c (FZ i))) ?_;rintro _ m _ ⟨a,R,rfl,b,rfl⟩;refine⟨a,by simp,?_⟩;obtain⟨y,g,j,n,e,rfl,k⟩:=id b;refine gr ?_;exact⟨b,rfl⟩
theorem K2(x:Ino)(M:Mem):SpecL prog 106 #[.agg (Sa x).toArray] M [] λu M' L'=>(∃s:Sl,u=.agg #[.int .u8 2,.int .u32 x.id,.int .u32 0,.int .i64 0,s.v]/\BS M' s.v (L4 x).val)/\L'=[]:=by
 obtain⟨i,d,l,z⟩:=x;cases d
 ·refine sB func106 ntmps106 ?_;intro W;refine Ke λQ Y=>?_;refine AV ([(Q,cE (Sa ⟨i,false,l,z⟩) 43)]) (by kernel_rfl) (by simp) ?_;refine gk [0,1] ?_;refine Et (i:=2) rfl (by kernel_rfl) (by kernel_rfl) rfl rfl (qC (Dw i _)) ?_;refine gk [3,5,6,8,9] ?_;refine wNo [4,7,10] (λi=>match i with|4=>10|7=>13|_=>16) (λi v R M=>R=[]/\match i with|4=>BS M v [bU 0]|7=>BS M v (PA 2 l)|_=>BS M v (PA 4 z)) #[true,true,true,true,true,true,true,true,true,true,true,false,false,false,false] 4 (par3 (Par.slice (cs:=[.int .u8 _]) (λb M' _ e=>⟨rfl,FG ⟨by decide,by decide⟩ e⟩) (λv R F o k h=>⟨h.1,h.2.mono k⟩)) (Par.call (λM' k=>(FW l 2 (by decide) M').mono λu o S h=>⟨h.2,h.1⟩) (λv R F o k h=>⟨h.1,h.2.mono k⟩)) (Par.call (λM' k=>(FW z 4 (by decide) M').mono λu o S h=>⟨h.2,h.1⟩) (λv R F o k h=>⟨h.1,h.2.mono k⟩))) (by simp) (MLe.refl _) ?_;intro n Rs F j B;obtain⟨L,D⟩:=B 4 (by simp);obtain⟨K,C⟩:=B 7 (by simp);obtain⟨y,m⟩:=B 10 (by simp);rw[show ([4,7,10]:List Nat).flatMap Rs=[]by simp[L,K,y]];show JA _ _ _ _ _ _ ((10,n 4)::(13,n 7)::(16,n 10)::_) _ _ _ _ _;generalize n 4=U at D⊢;generalize n 7=T at C⊢;generalize n 10=I at m⊢;obtain⟨X,rfl⟩:=D.sl;obtain⟨V,rfl⟩:=C.sl;obtain⟨J,rfl⟩:=m.sl;refine aO 11 ?_;refine sh rfl (DO (cs:=[_,_,_]) (by simp) rfl rfl rfl rfl rfl rfl) ?_;rintro _ o _ ⟨P,rfl,rfl,f,E⟩;refine aG (j.trans f) ?_;refine aO 12 ?_;refine sh rfl (hC (D2 _ _ o (LS.three E (D.mono f) (C.mono f) (m.mono f)) (by simp) (by simp[Hk]))) ?_;rintro _ M3 _ ⟨w,R,rfl,g⟩;refine aG ((j.trans f).trans w) ?_;obtain⟨H,G,rfl⟩:=g.form;refine Et (i:=13) rfl (by kernel_rfl) (by kernel_rfl) rfl rfl (BF (cs:=[_,_,_,_,_]) rfl rfl rfl (by rfl)) ?_;refine aO 14 ?_;refine Ug rfl rfl (Ao rfl rfl rfl rfl rfl rfl rfl rfl) ?_;rintro _ _ _ ⟨rfl,rfl⟩;refine aG ((j.trans f).trans w) ?_;refine FP (by kernel_rfl) ?_;refine wGh (jT ?_);refine Je g (by simp) ?_;intro Z a c O e N hs;cases e;refine gr ?_;exact⟨⟨⟨H,_,G⟩,rfl,⟨H,G,rfl,N,hs⟩⟩,rfl⟩
 refine sB func106 ntmps106 ?_;intro W;refine Ke λQ Y=>?_;refine AV ([(Q,cE (Sa ⟨i,true,l,z⟩) 43)]) (by kernel_rfl) (by simp) ?_;refine gk [0,1] ?_;refine Et (i:=2) rfl (by kernel_rfl) (by kernel_rfl) rfl rfl (qC (Dw i _)) ?_;refine gk [3,5,6,8,9] ?_;refine wNo [4,7,10] (λi=>match i with|4=>10|7=>13|_=>16) (λi v R M=>R=[]/\match i with|4=>BS M v [bU 1]|7=>BS M v (PA 2 l)|_=>BS M v (PA 4 z)) #[true,true,true,true,true,true,true,true,true,true,true,false,false,false,false] 4 (par3 (Par.slice (cs:=[.int .u8 _]) (λb M' _ e=>⟨rfl,FG ⟨by decide,by decide⟩ e⟩) (λv R F o k h=>⟨h.1,h.2.mono k⟩)) (Par.call (λM' k=>(FW l 2 (by decide) M').mono λu o S h=>⟨h.2,h.1⟩) (λv R F o k h=>⟨h.1,h.2.mono k⟩)) (Par.call (λM' k=>(FW z 4 (by decide) M').mono λu o S h=>⟨h.2,h.1⟩) (λv R F o k h=>⟨h.1,h.2.mono k⟩))) (by simp) (MLe.refl _) ?_;intro n Rs F j B;obtain⟨L,D⟩:=B 4 (by simp);obtain⟨K,C⟩:=B 7 (by simp);obtain⟨y,m⟩:=B 10 (by simp);rw[show ([4,7,10]:List Nat).flatMap Rs=[]by simp[L,K,y]];show JA _ _ _ _ _ _ ((10,n 4)::(13,n 7)::(16,n 10)::_) _ _ _ _ _;generalize n 4=U at D⊢;generalize n 7=T at C⊢;generalize n 10=I at m⊢;obtain⟨X,rfl⟩:=D.sl;obtain⟨V,rfl⟩:=C.sl;obtain⟨J,rfl⟩:=m.sl;refine aO 11 ?_;refine sh rfl (DO (cs:=[_,_,_]) (by simp) rfl rfl rfl rfl rfl rfl) ?_;rintro _ o _ ⟨P,rfl,rfl,f,E⟩;refine aG (j.trans f) ?_;refine aO 12 ?_;refine sh rfl (hC (D2 _ _ o (LS.three E (D.mono f) (C.mono f) (m.mono f)) (by simp) (by simp[Hk]))) ?_;rintro _ M3 _ ⟨w,R,rfl,g⟩;refine aG ((j.trans f).trans w) ?_;obtain⟨H,G,rfl⟩:=g.form;refine Et (i:=13) rfl (by kernel_rfl) (by kernel_rfl) rfl rfl (BF (cs:=[_,_,_,_,_]) rfl rfl rfl (by rfl)) ?_;refine aO 14 ?_;refine Ug rfl rfl (Ao rfl rfl rfl rfl rfl rfl rfl rfl) ?_;rintro _ _ _ ⟨rfl,rfl⟩;refine aG ((j.trans f).trans w) ?_;refine FP (by kernel_rfl) ?_;refine wGh (jT ?_);refine Je g (by simp) ?_;intro Z a c O e N hs;cases e;refine gr ?_;exact⟨⟨⟨H,_,G⟩,rfl,⟨H,G,rfl,N,hs⟩⟩,rfl⟩
theorem Np(p:Po)(x:V5)(M:Mem)(h:PW M x p)(q:Int)(j:0<=q/\q<4294967296)(i:Ino):SpecL prog 131 #[.agg (Bo x p.gen p.root p.next).toArray,.int .u32 q,.agg (Sa i).toArray] M [] λu M' w=>PoR (FR p q i) u M'/\w=[]:=by
 refine sB func131 ntmps131 ?_;intro W;refine W4 λm l C=>?_;refine gQ (N0 i M) ?_;refine gj (λb=>?_) λb=>?_
 ·refine gr ?_;exact⟨⟨PP,0,0,0,_,rfl,.no b (if_neg b)⟩,rfl⟩
 refine gh ?_;have f:=Classical.not_not.1 b;have k:Bj (FZ i.id):=Fp (by have:=wNy f;unfold u32;omega);refine D7 [0,1,2,103,104,5,6,107,8] [(l,cE (Sa i) 43),(m,cE (Bo x p.gen p.root p.next) 32)] ?_;refine gg ?_;refine dh rfl (hC (K2 i M)) ?_;rintro _ o _ ⟨a,R,rfl,⟨s,rfl,hs⟩,rfl⟩;refine⟨a,by simp,?_⟩;refine dh rfl (hC (G2 p x o (h.mono a) q j (L4 i) s.v hs k)) ?_;rintro _ D _ ⟨c,R,rfl,d,rfl⟩;refine⟨c,by simp,?_⟩;obtain⟨y,g,z,n,e,rfl,B⟩:=id d;refine gr ?_;exact⟨by unfold FR;rw[if_pos f];exact d,rfl⟩
end Go.Proofs.YtjheijhahehnmaaGreatDoor
