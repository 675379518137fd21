/- Walks: the blocks that may be taken. -/
import Derived.Test.YtjheijhahehnmaaGreatDoorZHn
import Derived.Test.YtjheijhahehnmaaGreatDoorZDelf
import Derived.Test.YtjheijhahehnmaaGreatDoorZDel
import Derived.Test.YtjheijhahehnmaaGreatDoorZRoom
import Derived.Test.YtjheijhahehnmaaGreatDoorZLoose
import Derived.Test.YtjheijhahehnmaaGreatDoorZShp
import Derived.Test.YtjheijhahehnmaaGreatDoorZHl
import Derived.Test.YtjheijhahehnmaaGreatDoorZHm
import Derived.Test.YtjheijhahehnmaaGreatDoorZTake
namespace Go.Proofs.YtjheijhahehnmaaGreatDoor
open Go.Proofs.Tryz
open List (nil_append length length_nil append_nil)
set_option linter.unusedSimpArgs false
set_option linter.unusedVariables false
set_option linter.unusedSectionVars false
set_option maxHeartbeats 40000000
set_option maxRecDepth 8000
open Go.RowKit
theorem wHi(p:Po)(x:V5)(M:Mem)(h:PT5 M x p)(d:p.dead.length<=1000000)(v:Vo):SpecL prog 171 #[.agg (Bo x p.gen p.root p.next).toArray,.agg (DA v).toArray] M [] λu M' g=>u=.int .i64 (RU p v)/\g=[]:=by
 cases e:Cc p.st p.root p.next p.dead with
 |none=>exact wVs p x M h d v e
 |some c=>obtain⟨f,b,a⟩:=c;exact wQe p x M h d v f b a e
theorem Ww{p:Po}{v:Vo}(h:RU p v=0):8<=v.root/\v.root<256:=by
 unfold RU at h;split at h
 ·cases h
 split at h
 ·cases h
 omega
theorem Ty(s:Sto)(v:Value)(root:Int)(q:Ky)(M:Mem)(i:ST M v s):SpecL prog 184 #[v,.int .i64 root,.agg (AA q).toArray] M [] λu M' o=>PtPost (MH s root q) u M'/\o=[]:=by
 obtain⟨b,w,n,l,rfl,m,⟨h,g,a,rfl,e,c,d,f⟩,k,j⟩:=i.ex;exact wQi s root q b n l h g a M m e c d f k j
def PtQ(r:Except Int (Sto×Int))(M':Mem)(a b c d:Sl)(n e:Int):Prop:=(e≠0/\r=.error e)\/(e=0/\∃t,r=.ok (t,n)/\Av t/\LS M' a.v t.blocks/\WS M' b.v t.waits/\BS M' c.v t.now/\BS M' d.v t.last)
variable{M':Mem}{u:Value}
theorem PtPost.q{r:Except Int (Sto×Int)}(h:PtPost r u M'):∃(a b c d:Sl)(n e:Int),u=.tuple #[.agg #[a.v,b.v,c.v,d.v],.int .i64 n,.int .i64 e]/\PtQ r M' a b c d n e:=by
 match r with
 |.error e=>exact⟨⟨none,0,0⟩,⟨none,0,0⟩,⟨none,0,0⟩,⟨none,0,0⟩,0,e,h.2,.inl ⟨h.1,rfl⟩⟩
 |.ok (t,n)=>
  obtain⟨v,e,f,g⟩:=h;obtain⟨a,b,c,d,rfl,l,k,j,i⟩:=f.four;exact⟨a,b,c,d,n,0,e,.inr ⟨rfl,t,rfl,g,l,k,j,i⟩⟩
def PoP(r:Except Int Po)(u:Value)(M':Mem):Prop:=match r with
 |.error e=>e≠0/\u=.tuple #[.agg (Bo PP 0 0 0).toArray,.int .i64 e]
 |.ok q=>∃y,u=.tuple #[.agg (Bo y q.gen q.root q.next).toArray,.int .i64 0]/\PT5 M' y q
def PoQ(r:Except Int Po)(M':Mem)(y:V5)(g r1 n e:Int):Prop:=(e≠0/\r=.error e)\/(e=0/\∃q,r=.ok q/\PT5 M' y q/\g=q.gen/\r1=q.root/\n=q.next)
theorem PoP.q{r:Except Int Po}(h:PoP r u M'):∃(y:V5)(g a n e:Int),u=.tuple #[.agg (Bo y g a n).toArray,.int .i64 e]/\PoQ r M' y g a n e:=by
 match r with
 |.error e=>exact⟨PP,0,0,0,e,h.2,.inl ⟨h.1,rfl⟩⟩
 |.ok q=>obtain⟨y,e,b⟩:=h;exact⟨y,q.gen,q.root,q.next,0,e,.inr ⟨rfl,q,rfl,b,rfl,rfl,rfl⟩⟩
def Ez(p:Po)(v:Vo):Except Int Po:=if RU p v=0 then (match H2 p.st p.root (Ci v)with
 |.error e=>.error e
 |.ok (t,n)=>if AN ⟨t,p.gen,n,p.next,p.dead⟩=0 then .ok ⟨t,p.gen,n,p.next,p.dead⟩else .error 8)else .error (RU p v)
variable{n:Int}
theorem SY{p:Po}{v:Vo}{t:Sto}(h:RU p v=0)(a:H2 p.st p.root (Ci v)=.ok (t,n)):Ez p v=if AN ⟨t,p.gen,n,p.next,p.dead⟩=0 then .ok ⟨t,p.gen,n,p.next,p.dead⟩else .error 8:=by unfold Ez;rw[if_pos h,a]
variable{e:Int}
theorem wEr{p:Po}{v:Vo}(h:RU p v=0)(a:H2 p.st p.root (Ci v)=.error e):Ez p v=.error e:=by unfold Ez;rw[if_pos h,a]
def wGb(q:Int):Ky:=⟨1,q,0⟩
def Vm(p:Po)(q:Int):Except Int Po:=if BG p q=0 then (match MH p.st p.root (wGb q)with
 |.error e=>.error e
 |.ok (t,n)=>.ok ⟨t,p.gen,n,p.next,p.dead⟩)else .error (BG p q)
theorem Kf(p:Po)(x:V5)(M:Mem)(h:PT5 M x p)(Z:p.dead.length<=1000000)(v:Vo)(hv:0<=v.id/\v.id<4294967296):
  SpecL prog 102 #[.agg (Bo x p.gen p.root p.next).toArray,.agg (DA v).toArray] M [] λu M' L'=>PoP (Ez p v) u M'/\L'=[]:=by
 have g:Bj (Ci v).key:=⟨⟨by show (0:Int)<=1;omega,by show (1:Int)<256;omega⟩,hv,by show (0:Int)<=0;omega,by show (0:Int)<4294967296;omega⟩;refine sB func102 ntmps102 ?_;intro W;refine W4 λS b3 b4=>?_;refine gc (wHi p x M h Z v) ?_;rintro _ M1 o rfl;refine gj (λs=>?_) λs=>?_
 ·refine gr ?_;exact⟨by unfold Ez;rw[if_neg s];exact⟨s,rfl⟩,rfl⟩
 refine gh ?_;have m:=Classical.not_not.1 s;obtain⟨ad,ac⟩:=Ww m;refine AV ([(S,cE (Bo x p.gen p.root p.next) 32),(b3,cE (DA v) 98)]) (by kernel_rfl) (by simp) ?_;refine gk [0,1,2,3,4] ?_;refine Eg (α:=Mem×Sl×Sl×Sl×Sl×Int×Int×Nat) (λy=>MLe M1 y.1/\PtQ (H2 p.st p.root (Ci v)) y.1 y.2.1 y.2.2.1 y.2.2.2.1 y.2.2.2.2.1 y.2.2.2.2.2.1 y.2.2.2.2.2.2.1) (λy=>[(2,pB S),(3,pB b3),(4,pB b4),(7,.pointer (some ⟨y.2.2.2.2.2.2.2,0,none⟩)),(25,.agg #[y.2.1.v,y.2.2.1.v,y.2.2.2.1.v,y.2.2.2.2.1.v]),(26,.int .i64 y.2.2.2.2.2.1),(27,.int .i64 y.2.2.2.2.2.2.1)]) (λy=>y.1) (λy=>[(y.2.2.2.2.2.2.2,cE [.slice none 0 0,.slice none 0 0,.slice none 0 0,.slice none 0 0] 28),(b4,.cells poZ.toArray 32 (0,0)),(b3,cE (DA v) 98),(S,cE (Bo x p.gen p.root p.next) 32)]) 3 #[true,true,true,true,true,true,true,true,true,true,true,true,false,false,false] ?_ (λe=>?_)
 ·rintro ⟨E,C,B,z,w,n,L,K⟩ ⟨H,l⟩;try dsimp only at H l⊢
  refine aO 12 ?_;refine Ug rfl rfl (Ao rfl rfl rfl rfl rfl rfl rfl rfl) ?_;rintro _ _ _ ⟨rfl,rfl⟩;refine aG (H) ?_;refine gk [13,14] ?_;refine FP (by kernel_rfl) ?_;refine gj (λJ=>?_) λJ=>?_
  ·refine gr ?_;obtain⟨h9,c⟩|⟨rfl,_⟩:=l;rotate_left
   ·exact absurd rfl J
   exact⟨by rw[wEr m c];exact⟨h9,rfl⟩,rfl⟩
  refine gh ?_;obtain⟨h9,_⟩|⟨rfl,t,c,ab,g1,g2,g3,g4⟩:=l
  ·exact absurd (Classical.not_not.1 J) h9
  refine Gt [6,8,10] [1,6,7,8,9,10] [0,1,2,3,5,104,106,7,108,9,110] E ([(K,.cells #[C.v,B.v,z.v,w.v] 28 (0,0)),(S,cE (Bo x p.gen p.root p.next) 32)]) ([]) ?_;refine gh ?_;obtain⟨V,U,exd,aa,N⟩:=h.d;refine dh rfl (BV rfl rfl rfl rfl rfl (by kernel_rfl) (by rw[exd];exact Du V _ U (Al p.dead) E (N.mono (o.trans H)) (Ay _) (DU _) Z)) ?_;rintro _ M4 _ ⟨i,R4,rfl,D⟩;refine⟨i,by simp,?_⟩;obtain⟨Q,P,rfl⟩:=D.form;refine Ho rfl rfl (Ao rfl rfl rfl rfl rfl rfl rfl rfl) ?_;rintro _ _ _ ⟨rfl,rfl⟩;refine⟨i,by simp,?_⟩;refine Kn rfl rfl rfl (Ac rfl rfl rfl rfl rfl) ?_;refine KY rfl rfl (Ao rfl rfl rfl rfl rfl rfl rfl rfl) ?_;rintro _ _ _ ⟨rfl,rfl⟩;refine⟨i,by simp,?_⟩;refine Kn rfl rfl rfl (Ac rfl rfl rfl rfl rfl) ?_;refine KY rfl rfl (Ao rfl rfl rfl rfl rfl rfl rfl rfl) ?_;rintro _ _ _ ⟨rfl,rfl⟩;refine⟨i,by simp,?_⟩;refine QM ?_;refine wGh (jT (Ah (Ah ?_)));refine Je D (by simp) ?_;intro M5 af ae a ed Y X;cases ed;have R:=i.trans a;have O:PT5 M5 ⟨C,B,z,w,⟨Q,p.dead.length,P⟩⟩ ⟨t,p.gen,n,p.next,p.dead⟩:=⟨g1.mono R,g2.mono R,g3.mono R,g4.mono R,⟨Q,P,rfl,Y,X⟩⟩;refine gc (FS ⟨t,p.gen,n,p.next,p.dead⟩ _ M5 O.pt Z) ?_;rintro _ M6 b rfl;refine gj (λI=>?_) λI=>?_
  ·refine gr ?_;exact⟨by rw[SY m c,if_neg I];exact⟨by decide,rfl⟩,rfl⟩
  refine gr ?_;exact⟨by rw[SY m c,if_pos (Classical.not_not.1 I)];exact⟨_,rfl,O.mono b⟩,rfl⟩
 refine Bf [5,11] (by kernel_rfl) rfl ⟨?_,?_,trivial⟩
 ·refine sh rfl (hC (Qp v M1 (by omega))) ?_;rintro _ T _ ⟨a,R5,rfl,⟨G,F,rfl,k,j⟩,rfl⟩;refine aG (a) ?_;simp only[nil_append];refine Bf [6,11] (by kernel_rfl) rfl ⟨?_,?_,trivial⟩
  ·refine sh rfl (hC (H1 p.st _ (.slice G (Ci v).val.length F) p.root (Ci v) T ((h.mono (o.trans a)).st) ⟨G,F,rfl,k,j⟩ g)) ?_;rintro _ E _ ⟨b,R6,rfl,f,rfl⟩;refine aG ((a).trans b) ?_;simp only[nil_append];obtain⟨C,B,z,w,n,L,rfl,l⟩:=f.q;refine gk [7,8,9,10] ?_;refine aO 11 ?_;refine sh rfl (AX rfl rfl) ?_;rintro _ _ _ ⟨K,rfl,rfl,rfl⟩;refine aG ((a.trans b)) ?_;exact aR e (E,C,B,z,w,n,L,K) ⟨a.trans b,l⟩
  refine sh rfl (AX rfl rfl) ?_;rintro _ _ _ ⟨K,rfl,rfl,rfl⟩;refine aG (a) ?_;refine aO 6 ?_;refine sh rfl (hC (H1 p.st _ (.slice G (Ci v).val.length F) p.root (Ci v) T ((h.mono (o.trans a)).st) ⟨G,F,rfl,k,j⟩ g)) ?_;rintro _ E _ ⟨b,R6,rfl,f,rfl⟩;refine aG ((a).trans b) ?_;simp only[nil_append];obtain⟨C,B,z,w,n,L,rfl,l⟩:=f.q;refine gk [7,8,9,10] ?_;exact aR e (E,C,B,z,w,n,L,K) ⟨a.trans b,l⟩
 refine sh rfl (AX rfl rfl) ?_;rintro _ _ _ ⟨K,rfl,rfl,rfl⟩;refine aG (MLe.refl _) ?_;refine aO 5 ?_;refine sh rfl (hC (Qp v M1 (by omega))) ?_;rintro _ T _ ⟨a,R5,rfl,⟨G,F,rfl,k,j⟩,rfl⟩;refine aG (a) ?_;simp only[nil_append];refine aO 6 ?_;refine sh rfl (hC (H1 p.st _ (.slice G (Ci v).val.length F) p.root (Ci v) T ((h.mono (o.trans a)).st) ⟨G,F,rfl,k,j⟩ g)) ?_;rintro _ E _ ⟨b,R6,rfl,f,rfl⟩;refine aG ((a).trans b) ?_;simp only[nil_append];obtain⟨C,B,z,w,n,L,rfl,l⟩:=f.q;refine gk [7,8,9,10] ?_;exact aR e (E,C,B,z,w,n,L,K) ⟨a.trans b,l⟩
def NJ(xs:List By)(k:Int):Int:=if HA xs then (if k<8\/256<=k then 2 else if xs.getD k.toNat 0=255 then 70 else 0)else 8
def wSr(xs:List By)(k:Int):List By:=xs.set k.toNat (xs.getD k.toNat 0+1)
def StP(r:Except Int Sto)(u:Value)(M':Mem):Prop:=match r with
 |.error e=>e≠0/\u=.tuple #[.agg zeroSt.toArray,.int .i64 e]
 |.ok t=>∃v,u=.tuple #[v,.int .i64 0]/\ST M' v t/\Av t
def KK(s:Sto)(k:Int):Except Int Sto:=if DW s k=0 then (if s.now.getD k.toNat 0=255 then .error 70 else .ok (Bb s k.toNat))else .error (DW s k)
def lvS(s:Sto)(k:Int):Except Int Sto:=match Df s k with|none=>.error 8|some t=>.ok t
def Kz(s:Sto)(k:Int):Except Int Sto:=if DW s k=0 then lvS s k else .error (DW s k)
def Kx(s:Sto)(k:Int):Except Int Sto:=if DW s k=0 then .ok (AO s k.toNat)else .error (DW s k)
theorem ZM(xs:List By)(a:Option Addr)(c:Nat)(M:Mem)(J:xs.length<=c)(hs:SM M a (Aa xs))(L:xs.length<=100000)(k:Int):
  SpecL prog 320 #[.slice a xs.length c,.int .i64 k,.int .u8 1,.int .u8 255] M [] λu M' T=>(∃v,u=.tuple #[v,.int .i64 (NJ xs k)]/\(NJ xs k=0->BS M' v (wSr xs k))/\(NJ xs k≠0->v=.slice none 0 0))/\T=[]:=by
 refine sB func320 ntmps320 ?_;intro W;refine gQ (Jz xs _ M ⟨_,_,rfl,J,hs⟩) ?_;refine gj (λg=>?_) λg=>?_
 ·refine gr ?_;have n:¬HA xs:=λh=>g (by unfold KA;rw[if_pos h]);have d:NJ xs k=8:=if_neg n;have z:KA xs=8:=if_neg n;exact⟨⟨_,by rw[d,z],λh=>absurd h (by rw[d];decide),λ_=>rfl⟩,rfl⟩
 refine gj (λF=>?_) λF=>?_
 ·refine gr ?_;have b:HA xs:=Classical.byContradiction λh=>g (by unfold KA;rw[if_neg h];decide);have d:NJ xs k=2:=by unfold NJ;rw[if_pos b,if_pos (by omega)]
  exact⟨⟨_,by rw[d],λh=>absurd h (by rw[d];decide),λ_=>rfl⟩,rfl⟩
 refine gj (λE=>?_) λE=>?_
 ·refine gr ?_;have b:HA xs:=Classical.byContradiction λh=>g (by unfold KA;rw[if_neg h];decide);have d:NJ xs k=2:=by unfold NJ;rw[if_pos b,if_pos (by omega)]
  exact⟨⟨_,by rw[d],λh=>absurd h (by rw[d];decide),λ_=>rfl⟩,rfl⟩
 refine gh ?_;have b:HA xs:=Classical.byContradiction λh=>g (by unfold KA;rw[if_neg h];decide);have K:xs.length=256:=b.1;obtain⟨V,no,G,y⟩:=hs.open (by intro e;have:=congrArg length e;rw[Ad,length_nil]at this;omega);subst G;have o:(Aa xs)[k.toNat]? =some (.int .u8 ((xs.getD k.toNat 0).toNat:Int)):=Ca (by omega);refine gh ?_;refine lq (Au rfl rfl rfl rfl ((y _ _ (by rw[Nat.mul_one];exact o)).cj _)) ?_;refine gj (λl=>?_) λl=>?_
 ·refine gr ?_;have d:NJ xs k=70:=by unfold NJ;rw[if_pos b,if_neg (by omega),if_pos (UInt8.toNat_inj.1 (show (xs.getD k.toNat 0).toNat=(255:UInt8).toNat by have Y:((xs.getD k.toNat 0).toNat:Int)=255:=l;have X:(255:UInt8).toNat=255:=rfl;omega))]
  exact⟨⟨_,by rw[d],λh=>absurd h (by rw[d];decide),λ_=>rfl⟩,rfl⟩
 refine gh ?_;have i:=(λe=>l (by rw[e];rfl):¬xs.getD k.toNat 0=255);obtain⟨B,N⟩:=Y5 i;refine gC (ET _ xs M ⟨_,_,rfl,J,hs⟩ L) ?_;rintro _ M1 R1 P f;obtain⟨ca,Z,C⟩:=f.form;subst C;obtain⟨U,I,H,G,R,_⟩:=f.open (by omega);cases G;cases R;refine gh ?_;refine lq (Au rfl rfl rfl rfl (by rw[Nat.mul_one,Nat.zero_add];exact f.cj (by simp) o)) ?_;refine gh ?_;refine lq (wTr rfl rfl rfl rfl rfl (by rw[IntKind.wrap_u8];omega)) ?_;refine gh ?_;refine DE rfl (D0 rfl rfl rfl rfl rfl rfl f rfl (by omega)) ?_;rintro _ _ _ ⟨rfl,S,rfl,j⟩;refine gh ?_;refine BK j (by simp) ?_;intro M2 a2 c2 O Q D w;cases Q;refine gr ?_;have d:NJ xs k=0:=by unfold NJ;rw[if_pos b,if_neg (by omega),if_neg i]
 have m:(wSr xs k).length=xs.length:=by unfold wSr;simp
 have s:Aa (wSr xs k)=(Aa xs).set k.toNat (.int .u8 (((xs.getD k.toNat 0).toNat:Int)+1)):=by unfold wSr Aa;rw[List.map_set,B]
 exact⟨⟨_,by rw[d],λ_=>⟨_,_,by rw[m],by rw[m];exact D,by rw[s];have:=w;rw[Nat.mul_one,Nat.zero_add]at this;exact this⟩,λh=>absurd d h⟩,rfl⟩
theorem ZN(xs:List By)(v:Value)(M:Mem)(h:BS M v xs)(d:xs.length<=100000)(k:Int):SpecL prog 320 #[v,.int .i64 k,.int .u8 1,.int .u8 255] M [] λu M' f=>(∃v,u=.tuple #[v,.int .i64 (NJ xs k)]/\(NJ xs k=0->BS M' v (wSr xs k))/\(NJ xs k≠0->v=.slice none 0 0))/\f=[]:=by
 obtain⟨a,c,rfl,e,b⟩:=h;exact ZM xs a c M e b d k
variable{M':Mem}{k:Int}{u:Value}{xs:List By}
theorem wSp(h:∃v,u=.tuple #[v,.int .i64 (NJ xs k)]/\(NJ xs k=0->BS M' v (wSr xs k))/\(NJ xs k≠0->v=.slice none 0 0)):∃a n c,u=.tuple #[.slice a n c,.int .i64 (NJ xs k)]/\(NJ xs k=0->BS M' (.slice a n c) (wSr xs k)):=by
 obtain⟨v,rfl,g,f⟩:=h;by_cases b:NJ xs k=0
 ·obtain ⟨a,c,rfl,e,d⟩:=g b;exact⟨a,_,c,rfl,λ_=>⟨a,c,rfl,e,d⟩⟩
 rw[f b];exact⟨none,0,0,rfl,λh=>absurd h b⟩
theorem wQr(xs:List By)(v:Value)(M:Mem)(h:BS M v xs)(i:xs.length<=100000)(k:Int):
  SpecL prog 269 #[v,.int .i64 k] M [] λu M' l=>(∃a n c,u=.tuple #[.slice a n c,.int .i64 (NJ xs k)]/\(NJ xs k=0->BS M' (.slice a n c) (wSr xs k)))/\l=[]:=by
 refine sB func269 ntmps269 ?_;intro W;refine gc (ZN xs v M h i k) ?_;rintro _ m j b;obtain⟨g,e,f,rfl,d⟩:=wSp b;refine gr ?_;exact⟨⟨g,e,f,rfl,d⟩,rfl⟩
theorem VG(s:Sto)(k:Int)(C j l lv:Value)(M:Mem)(B:ST M (.agg #[C,j,l,lv]) s)(G:LS M C s.blocks)(F:WS M j s.waits)(E:BS M l s.now)(D:BS M lv s.last):
  SpecL prog 177 #[.agg #[C,j,l,lv],.int .i64 k] M [] λu M' L'=>StP (KK s k) u M'/\L'=[]:=by
 obtain⟨P,K,_,rfl,_⟩:=id G;obtain⟨O,J,_,rfl,_⟩:=id F;obtain⟨N,I,rfl,_⟩:=id E;obtain⟨L,H,rfl,_⟩:=id D;refine sB func177 ntmps177 ?_;intro W;refine Ke λb2 b4=>?_;refine gQ (RS s k _ _ _ _ M B) ?_;refine gj (λb=>?_) λb=>?_
 ·refine gr ?_;exact⟨by unfold KK;rw[if_neg b];exact⟨b,rfl⟩,rfl⟩
 refine gh ?_;obtain⟨f,T,y,S⟩:=U4 (Classical.not_not.1 b);have c:NJ s.now k=if s.now.getD k.toNat 0=255 then 70 else 0:=by unfold NJ;rw[if_pos f.2.1,if_neg (by omega)]
 obtain⟨z,⟨o,_⟩,⟨w,_⟩⟩:=id f;refine gc (wQr s.now _ M E (by omega) k) ?_;rintro _ M1 g ⟨ua,un,uc,rfl,m⟩;refine gj (λh=>?_) λh=>?_
 ·refine gr ?_;have a:s.now.getD k.toNat 0=255:=Classical.byContradiction λe=>h (by rw[c,if_neg e]);rw[if_pos a]at c;exact⟨by unfold KK;rw[if_pos (Classical.not_not.1 b),if_pos a];exact⟨by decide,by rw[c];rfl⟩,rfl⟩
 refine gh ?_;have i:NJ s.now k=0:=Classical.not_not.1 h;have a:¬s.now.getD k.toNat 0=255:=λe=>by rw[i,if_pos e]at c;cases c
 have n:=JT (s:=s) (k:=k.toNat) f (by omega);have R:=Ha s k.toNat;refine gc (KJ (Bb s k.toNat) _ _ _ _ M1 (G.mono g) (F.mono g) (m i) (D.mono g) z (by omega) (by show s.last.length<=_;omega)) ?_;rintro _ M2 U d;obtain⟨q1,q2,q3,q4,rfl,Z,Y,X,V⟩:=d.ex;obtain⟨ba,bc,aa,rfl,_⟩:=id Z;obtain⟨wa,wc,Q,rfl,_⟩:=id Y;obtain⟨na,nc,rfl,_⟩:=id X;obtain⟨la,lc,rfl,_⟩:=id V;refine gr ?_;exact⟨by unfold KK;rw[if_pos (Classical.not_not.1 b),if_neg a];exact⟨_,rfl,d,n⟩,rfl⟩
theorem Pd(s:Sto)(k:Int)(z w y lv:Value)(M:Mem)(f:ST M (.agg #[z,w,y,lv]) s):
  SpecL prog 178 #[.agg #[z,w,y,lv],.int .i64 k] M [] λu _ _=>u=.int .i64 (DW s k):=by
 obtain⟨G,B,C,D,i,P,O,F,N⟩:=f.ex;simp only[Value.agg.injEq,Array.mk.injEq,List.cons.injEq,and_true]at i;obtain⟨rfl,rfl,rfl,rfl⟩:=i;obtain⟨J,H,rfl,E,c⟩:=F;have b:=Vw s;refine sB func178 ntmps178 ?_;intro W;refine ga λQ=>?_;refine gQ (CK s _ M f) ?_;refine gj (λg=>?_) λg=>?_
 ·refine gr ?_;have c:¬Av s:=λh=>g (by rw[b,if_pos h]);show Value.int .i64 (DJ s)=_;unfold DW;rw[if_neg c,b,if_neg c]
 refine gj (λo=>?_) λo=>?_
 ·refine gr ?_;have a:Av s:=Classical.byContradiction λh=>g (by rw[b,if_neg h];decide);unfold DW;rw[if_pos a,if_pos (by omega)]
 refine gj (λn=>?_) λn=>?_
 ·refine gr ?_;have a:Av s:=Classical.byContradiction λh=>g (by rw[b,if_neg h];decide);unfold DW;rw[if_pos a,if_pos (by omega)]
 refine gh ?_;have a:Av s:=Classical.byContradiction λh=>g (by rw[b,if_neg h];decide);have m:s.now.length=256:=a.2.1.1;obtain⟨I,no,i,l⟩:=c.open (by intro e;have:=congrArg length e;rw[Ad,length_nil]at this;omega);subst i;refine gh ?_;refine lq (Au rfl rfl rfl rfl ((l _ _ (by rw[Nat.mul_one];exact Ca (j:=k.toNat) (by omega))).cj _)) ?_;refine gj (λd=>?_) λd=>?_
 ·refine gr ?_;unfold DW;rw[if_pos a,if_neg (by omega),if_pos (UInt8.toNat_inj.1 (show (s.now.getD k.toNat 0).toNat=(0:UInt8).toNat by have L:((s.now.getD k.toNat 0).toNat:Int)=0:=d;have K:(0:UInt8).toNat=0:=rfl;omega))]
 refine gr ?_;unfold DW;rw[if_pos a,if_neg (by omega),if_neg (λe=>d (by rw[e];rfl))]
theorem Uw(s:Sto)(k:Int)(hk:8<=k/\k<256)(c:Av s)(b:Nat)(M:Mem)(g:Lc)(f:BOwn M b g s)(i:Nat)(d:M i=some (cE [.int .i64 k] 3)):
  SpecL prog 180 #[pB b,pB i] M g (LvPost s k b):=by
 refine sB func180 ntmps180 ?_;intro W;refine gh ?_;refine lq (Au rfl rfl rfl rfl (CM.cj ⟨_,_,_,d,rfl⟩ _)) ?_;refine gC (Hj s k hk c b M g f) ?_;rintro _ m l j a;obtain⟨e,rfl,h⟩:=LvPost.form a;refine jp rfl ?_;refine Ai (jT (Bq ?_));refine FX rfl rfl ?_;rw[append_nil];exact a
theorem Uv(s:Sto)(k:Int)(hk:8<=k/\k<256)(b:Av s)(a:Nat)(M:Mem)(g:Lc)(f:BOwn M a g s)(h:Nat)(e:M h=some (cE [.int .i64 k] 3)):
  SpecL prog 229 #[pB a,pB h] M g λu M' j=>u=.int .i64 (Cj s k.toNat)/\(Cj s k.toNat=0->BOwn M' a j (AO s k.toNat)):=by
 have c:s.now.length=256:=b.2.1.1;obtain⟨n,rfl⟩:∃n:Nat,k=(n:Int):=⟨k.toNat,by omega⟩;rw[Int.toNat_natCast];refine sB func229 ntmps229 ?_;intro W;refine gh ?_;refine lq (Au rfl rfl rfl rfl (CM.cj ⟨_,_,_,e,rfl⟩ _)) ?_;refine gC (GN s n a (by omega) M g f) ?_;rintro _ m l i ⟨rfl,d⟩;refine jp rfl ?_;refine Ai (jT (Bq ?_));refine FX rfl rfl ?_;rw[append_nil];exact⟨rfl,d⟩
theorem ZI(s:Sto)(k:Int)(hk:8<=k/\k<256)(y:Av s)(bv Y lw:Value)(o:Option Addr)(G:Nat)(a:List (Wt×Value))(M:Mem)(h1:LS M bv s.blocks)(N:s.waits.length<=G)(L:SM M o (a.flatMap AZ))(c:a.map (·.1)=s.waits)(w:∀p∈a,BS M p.2 p.1.2)(h3:BS M Y s.now)(h4:BS M lw s.last)(V:Nat)(T:M V=some (cE [.int .i64 k] 3)):
  SpecL prog 179 #[.agg #[bv,.slice o s.waits.length G,Y,lw],.func (.func 180) #[] #[pB V]] M [] λu M' L'=>StP (lvS s k) u M'/\L'=[]:=by
 obtain⟨S,⟨P,_⟩,⟨R,_⟩⟩:=id y;have aj:s.waits.length<=4096:=S.2.1;obtain⟨n,l,_,rfl,_⟩:=id h1;obtain⟨ac,ab,rfl,_⟩:=id h3;obtain⟨m,j,rfl,_⟩:=id h4;refine sB func179 ntmps179 ?_;intro W;refine Ke λb2 b4=>?_;refine gC (Nf s _ _ _ o G M N (by omega) h3 (by omega)) ?_;rintro _ M1 _ b ⟨F,Rn,na,Z,rfl,rfl,z⟩;have U:BOwn M1 F ((F,cE [(.slice n s.blocks.length l),.slice o s.waits.length s.waits.length,.slice na s.now.length Z,(.slice m s.last.length j)] Ew)::Rn) s:=by
  refine⟨(.slice n s.blocks.length l),_,na,Z,(.slice m s.last.length j),[],Rn,rfl,h1.mono b,h4.mono b,z,a,c,λp hp=>(w p hp).mono b,?_⟩;have B:(a.flatMap AZ).length=s.waits.length*2:=by rw[Aj AZ 2 BX,<-c,List.length_map]
  rcases L with h0|⟨wb,wo,rfl,K⟩
  ·have hz:s.waits.length=0:=by rw[h0,length_nil]at B;omega
   rw[h0,hz];cases o with
   |none=>exact .inl (Own.nil _ _)
   |some ba=>exact .inr ⟨rfl,rfl,ba,rfl,.inl rfl,λi u O=>by cases O⟩
  exact .inr ⟨rfl,B,_,rfl,.inr rfl,λi u O=>(K i u O).mono b⟩
 refine gC (Uw s k hk y F M1 _ U V (b _ _ T)) ?_;rintro _ M2 R2 ap Q;obtain⟨e,rfl,g⟩:=LvPost.form Q;refine gj (λE=>?_) λE=>?_
 ·refine gr ?_;obtain⟨rfl,h⟩|⟨rfl,_⟩:=g;rotate_left
  ·exact absurd rfl E
  exact⟨by unfold lvS;rw[h];exact⟨by decide,rfl⟩,rfl⟩
 refine gh ?_;obtain⟨_,_⟩|⟨_,t,h,f,D⟩:=g
 ·exfalso;omega
 obtain⟨C,⟨ak,_⟩,⟨al,_⟩⟩:=id f;refine LV (s:=t) D (by simp) ?_;intro M3 J H I Gs ao e3 k1 k2 k3 k4;refine gc (D5 t F J H I Gs M3 e3 k1 k2 k3 k4 C (by omega) (by omega)) ?_;rintro _ M4 am d;obtain⟨q1,q2,q3,q4,rfl,f1,f2,f3,f4⟩:=d.ex;obtain⟨au,aq,aa,rfl,_⟩:=id f1;obtain⟨ae,ad,X,rfl,_⟩:=id f2;obtain⟨ag,af,rfl,_⟩:=id f3;obtain⟨ai,ah,rfl,_⟩:=id f4;refine gr ?_;exact⟨by unfold lvS;rw[h];exact⟨_,rfl,d,f⟩,rfl⟩
theorem ZH(s:Sto)(k:Int)(hk:8<=k/\k<256)(g:Av s)(bv V Z:Value)(n:Option Addr)(C:Nat)(a:List (Wt×Value))(M:Mem)(h1:LS M bv s.blocks)(I:s.waits.length<=C)(H:SM M n (a.flatMap AZ))(d:a.map (·.1)=s.waits)(o:∀p∈a,BS M p.2 p.1.2)(h3:BS M V s.now)(h4:BS M Z s.last)(T:Nat)(P:Cj s k.toNat=0)(R:M T=some (cE [.int .i64 k] 3)):
  SpecL prog 179 #[.agg #[bv,.slice n s.waits.length C,V,Z],.func (.func 229) #[] #[pB T]] M [] λu M' L'=>StP (.ok (AO s k.toNat)) u M'/\L'=[]:=by
 obtain⟨Q,⟨L,_⟩,⟨O,_⟩⟩:=id g;have aj:s.waits.length<=4096:=Q.2.1;obtain⟨m,j,_,rfl,_⟩:=id h1;obtain⟨ac,ab,rfl,_⟩:=id h3;obtain⟨l,h,rfl,_⟩:=id h4;refine sB func179 ntmps179 ?_;intro W;refine Ke λb2 b4=>?_;refine gC (Nf s _ _ _ n C M I (by omega) h3 (by omega)) ?_;rintro _ M1 _ c ⟨B,Rn,Y,X,rfl,rfl,w⟩;have S:BOwn M1 B ((B,cE [(.slice m s.blocks.length j),.slice n s.waits.length s.waits.length,.slice Y s.now.length X,(.slice l s.last.length h)] Ew)::Rn) s:=by
  refine⟨(.slice m s.blocks.length j),_,Y,X,(.slice l s.last.length h),[],Rn,rfl,h1.mono c,h4.mono c,w,a,d,λp hp=>(o p hp).mono c,?_⟩;have y:(a.flatMap AZ).length=s.waits.length*2:=by rw[Aj AZ 2 BX,<-d,List.length_map]
  rcases H with h0|⟨wb,wo,rfl,G⟩
  ·have hz:s.waits.length=0:=by rw[h0,length_nil]at y;omega
   rw[h0,hz];cases n with
   |none=>exact .inl (Own.nil _ _)
   |some ba=>exact .inr ⟨rfl,rfl,ba,rfl,.inl rfl,λi u J=>by cases J⟩
  exact .inr ⟨rfl,y,_,rfl,.inr rfl,λi u J=>(G i u J).mono c⟩
 refine gC (Uv s k hk g B M1 _ S T (c _ _ R)) ?_;rintro _ M2 R2 ap ⟨rfl,N⟩;refine gt ?_;have f:=N P;have b:=C2 (s:=s) (k:=k.toNat) g (by omega);obtain⟨t,K⟩:∃t,t=AO s k.toNat:=⟨_,rfl⟩;rw[<-K]at f b;obtain⟨z,⟨ak,_⟩,⟨al,_⟩⟩:=id b;refine LV (s:=t) f (by simp) ?_;intro M3 F D E Gs ao e3 k1 k2 k3 k4;refine gc (D5 t B F D E Gs M3 e3 k1 k2 k3 k4 z (by omega) (by omega)) ?_;rintro _ M4 am e;obtain⟨q1,q2,q3,q4,rfl,f1,f2,f3,f4⟩:=e.ex;obtain⟨au,aq,aa,rfl,_⟩:=id f1;obtain⟨ae,ad,U,rfl,_⟩:=id f2;obtain⟨ag,af,rfl,_⟩:=id f3;obtain⟨ai,ah,rfl,_⟩:=id f4;refine gr ?_;exact⟨⟨_,rfl,by rw[<-K];exact e,by rw[<-K];exact b⟩,rfl⟩
variable{M':Mem}{u:Value}
theorem StP.form{r:Except Int Sto}(h:StP r u M'):∃(a b c d:Option Addr×Nat×Nat)(e:Int),u=.tuple #[.agg #[.slice a.1 a.2.1 a.2.2,.slice b.1 b.2.1 b.2.2,.slice c.1 c.2.1 c.2.2,.slice d.1 d.2.1 d.2.2],.int .i64 e]/\((e≠0/\r=.error e)\/(e=0/\∃t,r=.ok t/\Av t/\ST M' (.agg #[.slice a.1 a.2.1 a.2.2,.slice b.1 b.2.1 b.2.2,.slice c.1 c.2.1 c.2.2,.slice d.1 d.2.1 d.2.2]) t)):=by
 match r with
 |.error e=>exact⟨(none,0,0),(none,0,0),(none,0,0),(none,0,0),e,h.2,.inl ⟨h.1,rfl⟩⟩
 |.ok t=>
  obtain⟨v,e,w,m⟩:=h
  obtain⟨H,G,F,E,rfl,D,C,B,z⟩:=w.ex
  obtain⟨o,n,y,rfl,_⟩:=id D
  obtain⟨g,f,s,rfl,_⟩:=id C
  obtain⟨j,i,rfl,_⟩:=id B
  obtain⟨l,k,rfl,_⟩:=id z
  exact⟨(o,_,n),(g,_,f),(j,_,i),(l,_,k),0,e,.inr ⟨rfl,t,rfl,m,w⟩⟩
theorem Xq(s:Sto)(k:Int)(y f h lv:Value)(M:Mem)(w:ST M (.agg #[y,f,h,lv]) s)(C:LS M y s.blocks)(Q:WS M f s.waits)(B:BS M h s.now)(z:BS M lv s.last):
  SpecL prog 113 #[.agg #[y,f,h,lv],.int .i64 k] M [] λu M' T=>StP (Kz s k) u M'/\T=[]:=by
 obtain⟨J,G,_,rfl,_⟩:=id C;obtain⟨L,K,g,rfl,l,i,j,m⟩:=id Q;obtain⟨I,F,rfl,_⟩:=id B;obtain⟨H,E,rfl,_⟩:=id z;refine sB func113 ntmps113 ?_;intro W;refine ga λZ=>?_;refine lh (Bt rfl rfl rfl rfl) ?_;rintro _ _ _ ⟨D,rfl,rfl,rfl⟩;refine ga λY=>?_;refine gQ (Pd s k _ _ _ _ M w) ?_;refine gj (λb=>?_) λb=>?_
 ·refine gr ?_;exact⟨by unfold Kz;rw[if_neg b];exact⟨b,rfl⟩,rfl⟩
 refine gh ?_;obtain⟨n,o,c,O⟩:=U4 (Classical.not_not.1 b);refine Az D (by simp) ?_;intro S a R;refine gc (ZI s k ⟨o,c⟩ n _ _ _ L K g S (C.mono a) l (i.mono a) j (λp N=>(m p N).mono a) (B.mono a) (z.mono a) D R) ?_;rintro _ M2 P d;obtain⟨z1,z2,V,U,e,rfl,X⟩:=StP.form d;refine gr ?_;exact⟨by unfold Kz;rw[if_pos (Classical.not_not.1 b)];exact d,rfl⟩
theorem Xp(s:Sto)(k:Int)(z f h lv:Value)(M:Mem)(y:ST M (.agg #[z,f,h,lv]) s)(D:LS M z s.blocks)(Q:WS M f s.waits)(C:BS M h s.now)(B:BS M lv s.last):
  SpecL prog 147 #[.agg #[z,f,h,lv],.int .i64 k] M [] λu M' T=>StP (Kx s k) u M'/\T=[]:=by
 obtain⟨K,H,_,rfl,_⟩:=id D;obtain⟨N,L,g,rfl,l,i,j,m⟩:=id Q;obtain⟨J,G,rfl,_⟩:=id C;obtain⟨I,F,rfl,_⟩:=id B;refine sB func147 ntmps147 ?_;intro W;refine ga λZ=>?_;refine lh (Bt rfl rfl rfl rfl) ?_;rintro _ _ _ ⟨E,rfl,rfl,rfl⟩;refine ga λY=>?_;refine gQ (Pd s k _ _ _ _ M y) ?_;refine gj (λb=>?_) λb=>?_
 ·refine gr ?_;exact⟨by unfold Kx;rw[if_neg b];exact⟨b,rfl⟩,rfl⟩
 refine gh ?_;obtain⟨n,w,c,o⟩:=U4 (Classical.not_not.1 b);refine Az E (by simp) ?_;intro S a R;refine gc (ZH s k ⟨w,c⟩ n _ _ _ N L g S (D.mono a) l (i.mono a) j (λp O=>(m p O).mono a) (C.mono a) (B.mono a) E (if_neg o) R) ?_;rintro _ M2 P d;obtain⟨z1,z2,V,U,e,rfl,X⟩:=StP.form d;refine gr ?_;exact⟨by unfold Kx;rw[if_pos (Classical.not_not.1 b)];exact d,rfl⟩
theorem Ju(s:Sto)(k:Int)(v:Value)(M:Mem)(h:ST M v s):SpecL prog 113 #[v,.int .i64 k] M [] λu M' f=>StP (Kz s k) u M'/\f=[]:=by
 obtain⟨b,w,n,l,rfl,e,d,c,a⟩:=h.ex;exact Xq s k b w n l M h e d c a
theorem Pa(s:Sto)(k:Int)(v:Value)(M:Mem)(h:ST M v s):SpecL prog 147 #[v,.int .i64 k] M [] λu M' f=>StP (Kx s k) u M'/\f=[]:=by
 obtain⟨b,w,n,l,rfl,e,d,c,a⟩:=h.ex;exact Xp s k b w n l M h e d c a
theorem F5(s:Sto)(k:Int)(v:Value)(M:Mem)(h:ST M v s):SpecL prog 177 #[v,.int .i64 k] M [] λu M' f=>StP (KK s k) u M'/\f=[]:=by
 obtain⟨b,w,n,l,rfl,e,d,c,a⟩:=h.ex;exact VG s k b w n l M h e d c a
def RC(p:Po)(k:Int)(held:Bool):Int:=if AN p=0 then (if k<8\/256<=k then 2 else if p.st.now.getD k.toNat 0=0\/k∈CS p\/(held=true/\((p.st.now.getD k.toNat 0).toNat:Int)<=(CY p).getD k.toNat 0)then 6 else 0)else AN p
variable{j:Nat}{xs:List Int}
theorem Uj(h:j<xs.length):(Al xs)[j]? =some (.int .i64 (xs.getD j 0)):=by simp[Al,List.getD,h]
theorem YE(p:Po):(CS p).length<=256:=by
 unfold CS;split
 ·simp
 exact Wl _ _
theorem EY{p:Po}(h:AN p=0):Av p.st:=(PoOk.of h).st
variable{b:Bool}{k:Int}
theorem wVu{p:Po}(h:¬AN p=0):RC p k b=AN p:=if_neg h
theorem Hy{p:Po}(h:AN p=0)(hk:k<8\/256<=k):RC p k b=2:=by unfold RC;rw[if_pos h,if_pos hk]
theorem BR{p:Po}(h:AN p=0)(hk:¬(k<8\/256<=k))(a:((p.st.now.getD k.toNat 0).toNat:Int)=0\/k∈CS p\/(b=true/\((p.st.now.getD k.toNat 0).toNat:Int)<=(CY p).getD k.toNat 0)):RC p k b=6:=by
 unfold RC;rw[if_pos h,if_neg hk,if_pos (a.imp (λh=>UInt8.toNat.inj (by have c:(0:By).toNat=0:=rfl;omega)) id)]
theorem Cq{p:Po}(h:AN p=0)(hk:¬(k<8\/256<=k))(f:¬((p.st.now.getD k.toNat 0).toNat:Int)=0)(d:k∉CS p)(c:¬(b=true/\((p.st.now.getD k.toNat 0).toNat:Int)<=(CY p).getD k.toNat 0)):RC p k b=0:=by
 unfold RC;rw[if_pos h,if_neg hk,if_neg λa=>a.elim (λe=>f (by rw[e];rfl)) λa=>a.elim d c]
theorem wQn{p:Po}(h:RC p k b=0):AN p=0/\8<=k/\k<256/\¬p.st.now.getD k.toNat 0=0:=by
 unfold RC at h;split at h
 ·rename_i a;split at h
  ·cases h
  rename_i d;split at h
  ·cases h
  rename_i c;exact⟨a,by omega,by omega,λe=>c (.inl e)⟩
 rename_i a;exact absurd h a
def wSd(p:Po)(q:Int):Int:=if BG p q=0/\(As p q).frz=true then 170 else BG p q
def T2(p:Po)(k:Int):Except Int Po:=if RC p k false=0 then (match KK p.st k with|.error e=>.error e|.ok t=>.ok ⟨t,p.gen,p.root,p.next,p.dead⟩)else .error (RC p k false)
theorem KE(p:Po)(x:V5)(M:Mem)(h:PT5 M x p)(I:p.dead.length<=1000000)(k:Int)(held:Bool):
  SpecL prog 266 #[.agg (Bo x p.gen p.root p.next).toArray,.int .i64 k,.bool held] M [] λu M' X=>u=.int .i64 (RC p k held)/\X=[]:=by
 refine sB func266 ntmps266 ?_;intro W;refine ga λb3=>?_;refine gc (Re p x M h I) ?_;rintro _ V m ⟨K,rfl,y,F,w,E⟩;obtain⟨a1,n1,c1⟩:=K;dsimp only at y F w;subst y;refine gj (λi=>?_) λi=>?_
 ·refine gr ?_;exact⟨congrArg (Value.int .i64) (wVu i).symm,rfl⟩
 refine gc (Xe p x V (h.mono m) I) ?_;rintro _ U l ⟨J,rfl,s,C,o⟩;obtain⟨T,n2,S⟩:=J;dsimp only at s C o;subst s;refine gt ?_;refine gj (λD=>?_) λD=>?_
 ·refine gr ?_;refine⟨congrArg (Value.int .i64) ?_,rfl⟩;first|exact(Hy (Classical.not_not.1 i) (by omega)).symm|exact(BR a (by omega) (.inl d)).symm|exact(BR a (by omega) (.inr (.inl (of_decide_eq_true c)))).symm|exact(BR a (by omega) (.inr (.inr ⟨g,f⟩))).symm|exact(Cq a (by omega) d (of_decide_eq_false c) (λh=>f h.2)).symm|exact(Cq a (by omega) d (of_decide_eq_false c) (λh=>by rw[g]at h;cases h.1)).symm
 refine gj (λB=>?_) λB=>?_
 ·refine gr ?_;refine⟨congrArg (Value.int .i64) ?_,rfl⟩;first|exact(Hy (Classical.not_not.1 i) (by omega)).symm|exact(BR a (by omega) (.inl d)).symm|exact(BR a (by omega) (.inr (.inl (of_decide_eq_true c)))).symm|exact(BR a (by omega) (.inr (.inr ⟨g,f⟩))).symm|exact(Cq a (by omega) d (of_decide_eq_false c) (λh=>f h.2)).symm|exact(Cq a (by omega) d (of_decide_eq_false c) (λh=>by rw[g]at h;cases h.1)).symm
 refine gh ?_;have a:AN p=0:=Classical.not_not.1 i;have z:=EY a;have Q:p.st.now.length=256:=z.2.1.1;obtain⟨N,no,H,nx⟩:=h.n.sm.open (by intro e;have:=congrArg length e;rw[Ad,length_nil]at this;omega);have O:x.n.n=p.st.now.length:=h.n.len;have R:=(p.st.now.getD k.toNat 0).toNat_lt;refine lq (EV (b:=N) (off:=no) rfl rfl (by show some (Value.slice _ _ _)=_;rw[H]) rfl (by omega)) ?_;refine lq (Au (v:=.int .u8 ((p.st.now.getD k.toNat 0).toNat:Int)) rfl rfl rfl rfl (((nx _ _ (by rw[Nat.mul_one];exact Ca (xs:=p.st.now) (j:=k.toNat) (by omega))).mono (m.trans l)).cj _)) ?_;refine lq (C7 rfl rfl rfl (by omega)) ?_;refine gj (λd=>?_) λd=>?_
 ·refine gr ?_;refine⟨congrArg (Value.int .i64) ?_,rfl⟩;first|exact(Hy (Classical.not_not.1 i) (by omega)).symm|exact(BR a (by omega) (.inl d)).symm|exact(BR a (by omega) (.inr (.inl (of_decide_eq_true c)))).symm|exact(BR a (by omega) (.inr (.inr ⟨g,f⟩))).symm|exact(Cq a (by omega) d (of_decide_eq_false c) (λh=>f h.2)).symm|exact(Cq a (by omega) d (of_decide_eq_false c) (λh=>by rw[g]at h;cases h.1)).symm
 refine gg ?_;refine BP rfl rfl (CZ rfl rfl rfl rfl rfl (by kernel_rfl) (wGo (CS p) T S k U o (by have:=YE p;omega))) (λc=>?_) (λc=>?_)
 ·refine gr ?_;refine⟨congrArg (Value.int .i64) ?_,rfl⟩;first|exact(Hy (Classical.not_not.1 i) (by omega)).symm|exact(BR a (by omega) (.inl d)).symm|exact(BR a (by omega) (.inr (.inl (of_decide_eq_true c)))).symm|exact(BR a (by omega) (.inr (.inr ⟨g,f⟩))).symm|exact(Cq a (by omega) d (of_decide_eq_false c) (λh=>f h.2)).symm|exact(Cq a (by omega) d (of_decide_eq_false c) (λh=>by rw[g]at h;cases h.1)).symm
 iterate 2 refine jp rfl ?_
 refine LZ rfl (λg=>?_) (λg=>?_)
 ·refine gh ?_;have P:=E a;obtain⟨Z,Y,G,L⟩:=w.open (by intro e;have:=congrArg length e;rw[Ay,length_nil]at this;omega);subst G;refine lq (EV rfl rfl rfl rfl (by show (0:Int)<=k/\k<((CY p).length:Int);omega)) ?_;refine lq (Au (v:=.int .i64 ((CY p).getD k.toNat 0)) rfl rfl rfl rfl (((L _ _ (by rw[Nat.mul_one];exact Uj (xs:=CY p) (j:=k.toNat) (by omega))).mono l).cj _)) ?_;refine gj (λf=>?_) λf=>?_
  ·refine gr ?_;refine⟨congrArg (Value.int .i64) ?_,rfl⟩;first|exact(Hy (Classical.not_not.1 i) (by omega)).symm|exact(BR a (by omega) (.inl d)).symm|exact(BR a (by omega) (.inr (.inl (of_decide_eq_true c)))).symm|exact(BR a (by omega) (.inr (.inr ⟨g,f⟩))).symm|exact(Cq a (by omega) d (of_decide_eq_false c) (λh=>f h.2)).symm|exact(Cq a (by omega) d (of_decide_eq_false c) (λh=>by rw[g]at h;cases h.1)).symm
  refine gr ?_;refine⟨congrArg (Value.int .i64) ?_,rfl⟩;first|exact(Hy (Classical.not_not.1 i) (by omega)).symm|exact(BR a (by omega) (.inl d)).symm|exact(BR a (by omega) (.inr (.inl (of_decide_eq_true c)))).symm|exact(BR a (by omega) (.inr (.inr ⟨g,f⟩))).symm|exact(Cq a (by omega) d (of_decide_eq_false c) (λh=>f h.2)).symm|exact(Cq a (by omega) d (of_decide_eq_false c) (λh=>by rw[g]at h;cases h.1)).symm
 refine gr ?_;refine⟨congrArg (Value.int .i64) ?_,rfl⟩;first|exact(Hy (Classical.not_not.1 i) (by omega)).symm|exact(BR a (by omega) (.inl d)).symm|exact(BR a (by omega) (.inr (.inl (of_decide_eq_true c)))).symm|exact(BR a (by omega) (.inr (.inr ⟨g,f⟩))).symm|exact(Cq a (by omega) d (of_decide_eq_false c) (λh=>f h.2)).symm|exact(Cq a (by omega) d (of_decide_eq_false c) (λh=>by rw[g]at h;cases h.1)).symm
theorem PK(p:Po)(x:V5)(M:Mem)(h:PT5 M x p)(d:p.dead.length<=1000000)(q:Int):
  SpecL prog 265 #[.agg (Bo x p.gen p.root p.next).toArray,.int .u32 q] M [] λu M' f=>u=.tuple #[.agg (DA (As p q)).toArray,.int .i64 (wSd p q)]/\f=[]:=by
 refine sB func265 ntmps265 ?_;intro W;refine Ke λj i=>?_;refine gc (Dx p x M h d q) ?_;rintro _ k e rfl;refine gA λg=>?_;refine gj (λc=>?_) λc=>?_
 ·refine gg ?_;refine BP rfl rfl (Au rfl rfl rfl rfl (CJ.loc rfl)) (λb=>?_) (λb=>?_)
  ·refine gr ?_;refine⟨?_,rfl⟩;have a:wSd p q=if BG p q=0/\(As p q).frz=true then 170 else BG p q:=rfl
   first|(rw[a,if_pos ⟨by assumption,by assumption⟩];rfl)|(rw[a,if_neg (λh=>by simp_all)];rfl)
  refine gr ?_;refine⟨?_,rfl⟩;have a:wSd p q=if BG p q=0/\(As p q).frz=true then 170 else BG p q:=rfl
  first|(rw[a,if_pos ⟨by assumption,by assumption⟩];rfl)|(rw[a,if_neg (λh=>by simp_all)];rfl)
 refine gr ?_;refine⟨?_,rfl⟩;have a:wSd p q=if BG p q=0/\(As p q).frz=true then 170 else BG p q:=rfl
 first|(rw[a,if_pos ⟨by assumption,by assumption⟩];rfl)|(rw[a,if_neg (λh=>by simp_all)];rfl)
theorem XW(p:Po)(x:V5)(M:Mem)(h:PT5 M x p)(l:p.dead.length<=1000000)(k:Int):
  SpecL prog 195 #[.agg (Bo x p.gen p.root p.next).toArray,.int .i64 k] M [] λu M' y=>(∃s:Sl,u=.tuple #[s.v,.int .i64 (RC p k false)]/\(RC p k false=0->BS M' s.v (seen p.st k.toNat)))/\y=[]:=by
 refine sB func195 ntmps195 ?_;intro W;refine ga λB=>?_;refine gc (KE p x M h l k false) ?_;rintro _ o e rfl;refine gj (λa=>?_) λa=>?_
 ·refine gr ?_;exact⟨⟨⟨none,0,0⟩,rfl,λh=>absurd h a⟩,rfl⟩
 refine gh ?_;have d:=Classical.not_not.1 a;obtain⟨g,j,i,_⟩:=wQn d;have f:=EY g;obtain⟨n,rfl⟩:∃n:Nat,k=(n:Int):=⟨k.toNat,by omega⟩;refine gc (ZG p.st n _ _ o (h.mono e).b (h.mono e).w f.1 (by omega)) ?_;rintro _ C m ⟨z,rfl,c⟩;obtain⟨ds,rfl⟩:=c.sl;refine gr ?_;exact⟨⟨ds,by rw[d];rfl,λ_=>c⟩,rfl⟩
def StQ(r:Except Int Sto)(M':Mem)(a b c d:Sl)(e:Int):Prop:=(e≠0/\r=.error e)\/(e=0/\∃t,r=.ok t/\Av t/\LS M' a.v t.blocks/\WS M' b.v t.waits/\BS M' c.v t.now/\BS M' d.v t.last)
variable{M':Mem}{u:Value}
theorem StP.q{r:Except Int Sto}(h:StP r u M'):∃(a b c d:Sl)(e:Int),u=.tuple #[.agg #[a.v,b.v,c.v,d.v],.int .i64 e]/\StQ r M' a b c d e:=by
 match r with
 |.error e=>exact⟨⟨none,0,0⟩,⟨none,0,0⟩,⟨none,0,0⟩,⟨none,0,0⟩,e,h.2,.inl ⟨h.1,rfl⟩⟩
 |.ok t=>
  obtain⟨v,e,f,g⟩:=h
  obtain⟨a,b,c,d,rfl,l,k,j,i⟩:=f.four
  exact⟨a,b,c,d,0,e,.inr ⟨rfl,t,rfl,g,l,k,j,i⟩⟩
variable{k:Int}
theorem wLn{p:Po}(h:¬RC p k false=0):T2 p k=.error (RC p k false):=if_neg h
theorem wLm{p:Po}{e:Int}(h:RC p k false=0)(a:KK p.st k=.error e):T2 p k=.error e:=by unfold T2;rw[if_pos h,a]
theorem wTt{p:Po}{t:Sto}(h:RC p k false=0)(a:KK p.st k=.ok t):T2 p k=.ok ⟨t,p.gen,p.root,p.next,p.dead⟩:=by unfold T2;rw[if_pos h,a]
theorem Vg(p:Po)(x:V5)(M:Mem)(h:PT5 M x p)(K:p.dead.length<=1000000)(k:Int):
  SpecL prog 287 #[.agg (Bo x p.gen p.root p.next).toArray,.int .i64 k] M [] λu M' L'=>PoP (T2 p k) u M'/\L'=[]:=by
 refine sB func287 ntmps287 ?_;intro W;refine Ke λX b4=>?_;refine gc (KE p x M h K k false) ?_;rintro _ Z i rfl;refine gj (λb=>?_) λb=>?_
 ·refine gr ?_;exact⟨by rw[wLn b];exact⟨b,rfl⟩,rfl⟩
 refine gc (F5 p.st k _ Z ((h.mono i).st)) ?_;rintro _ L C s;obtain⟨H,G,F,E,er,rfl,J⟩:=s.q;refine gA λV=>?_;refine gj (λf=>?_) λf=>?_
 ·refine gr ?_;obtain⟨D,a⟩|⟨rfl,_⟩:=J;rotate_left
  ·exact absurd rfl f
  exact⟨by rw[wLm (Classical.not_not.1 b) a];exact⟨D,rfl⟩,rfl⟩
 refine gh ?_;obtain⟨D,_⟩|⟨rfl,t,a,N,R,Q,P,O⟩:=J
 ·exact absurd (Classical.not_not.1 f) D
 refine Gt [5,7] [5,6,7] [0,1,2,4,103,105,6,107] L ([(V,.cells #[H.v,G.v,F.v,E.v] 28 (0,0)),(X,cE (Bo x p.gen p.root p.next) 32)]) ([]) ?_;refine gh ?_;obtain⟨o,n,exd,I,g⟩:=h.d;refine dh rfl (BV rfl rfl rfl rfl rfl (by kernel_rfl) (by rw[exd];exact Du o _ n (Al p.dead) L (g.mono (i.trans C)) (Ay _) (DU _) K)) ?_;rintro _ M4 _ ⟨c,R4,rfl,e⟩;refine⟨c,by simp,?_⟩;obtain⟨l,j,rfl⟩:=e.form;refine Ho rfl rfl (Ao rfl rfl rfl rfl rfl rfl rfl rfl) ?_;rintro _ _ _ ⟨rfl,rfl⟩;refine⟨c,by simp,?_⟩;refine Kn rfl rfl rfl (Ac rfl rfl rfl rfl rfl) ?_;refine KY rfl rfl (Ao rfl rfl rfl rfl rfl rfl rfl rfl) ?_;rintro _ _ _ ⟨rfl,rfl⟩;refine⟨c,by simp,?_⟩;refine QM ?_;refine wGh (jT (Ah ?_));refine Je e (by simp) ?_;intro Y U T B S z y;cases S;have m:=c.trans B;have w:PT5 Y ⟨H,G,F,E,⟨l,p.dead.length,j⟩⟩ ⟨t,p.gen,p.root,p.next,p.dead⟩:=⟨R.mono m,Q.mono m,P.mono m,O.mono m,⟨l,j,rfl,z,y⟩⟩;refine gr ?_;exact⟨by rw[wTt (Classical.not_not.1 b) a];exact⟨_,rfl,w⟩,rfl⟩
def Lq(p:Po)(q:Int):Int:=if BG p q=0 then (AQ p.st (As p q).root).2 else BG p q
def MS(p:Po)(q:Int)(a b:Ky):List It:=if Lq p q=0 then rng p.st (As p q).root a b else []
theorem Vh(p:Po)(x:V5)(M:Mem)(h:PT5 M x p)(o:p.dead.length<=1000000)(q:Int)(a b:Ky):
  SpecL prog 103 #[.agg (Bo x p.gen p.root p.next).toArray,.int .u32 q,.agg (AA a).toArray,.agg (AA b).toArray] M [] λu M' B=>(∃s:Sl,u=.tuple #[s.v,.int .i64 (Lq p q)]/\NS M' s.v (MS p q a b))/\B=[]:=by
 refine sB func103 ntmps103 ?_;intro W;refine W4 λF E D=>?_;refine gc (Dx p x M h o q) ?_;rintro _ z f rfl;refine gA λy=>?_;refine gj (λc=>?_) λc=>?_
 ·refine gr ?_;have e:Lq p q=BG p q:=if_neg c;exact⟨⟨⟨none,0,0⟩,by rw[e];rfl,by unfold MS;rw[e,if_neg c];exact⟨none,0,[],rfl,Nat.le_refl _,SM.nil,rfl,λ_ h=>by cases h⟩⟩,rfl⟩
 refine gc (Yr p.st _ (As p q).root a b z ((h.mono f).st)) ?_;rintro _ G w ⟨C,rfl,d⟩;obtain⟨j,i,g,rfl,m,k,l,n⟩:=id d;refine gr ?_;have e:Lq p q=(AQ p.st (As p q).root).2:=if_pos (Classical.not_not.1 c);exact⟨⟨⟨j,_,i⟩,by rw[e];rfl,by unfold MS;rw[e];exact d⟩,rfl⟩
def TN(p:Po)(q:Int)(k:Ky):Option It:=if Lq p q=0 then N3 p.st (As p q).root k else none
def VfP(p:Po)(q:Int)(k:Ky)(u:Value)(M':Mem):Prop:=∃(y:It)(s:Sl)(code:Int),u=.tuple #[.agg #[.int .u8 y.key.kind,.int .u32 y.key.id,.int .u32 y.key.off,.int .i64 y.ref,s.v],.int .i64 code]/\BS M' s.v y.val/\((code=0/\TN p q k=some y)\/(code≠0/\TN p q k=none))
variable{s:Sto}
theorem wVr{root:Int}{q:Ky}(h:FdPost s root q u M'):∃(y:It)(c:Sl)(a:Int),u=.tuple #[.agg #[.int .u8 y.key.kind,.int .u32 y.key.id,.int .u32 y.key.off,.int .i64 y.ref,c.v],.int .i64 a]/\BS M' c.v y.val/\(((AQ s root).2=0/\a=0/\N3 s root q=some y)\/(a≠0/\((AQ s root).2=0->N3 s root q=none))):=by
 by_cases b:(AQ s root).2=0
 ·obtain ⟨y,c,a,i,g,j⟩:=wQd h;obtain⟨sl,rfl⟩:=g.sl;rcases j b with⟨f,d⟩|⟨f,d,_⟩
  ·exact ⟨y,sl,a,i,g,.inl ⟨b,d,f⟩⟩
  exact⟨y,sl,a,i,g,.inr ⟨by rw[d];decide,λ_=>f⟩⟩
 unfold FdPost at h;rw[if_neg b]at h;exact⟨Sx,⟨none,0,0⟩,_,h,BS.nil,.inr ⟨b,λe=>absurd e b⟩⟩
theorem XV(p:Po)(x:V5)(M:Mem)(h:PT5 M x p)(n:p.dead.length<=1000000)(q:Int)(k:Ky):
  SpecL prog 188 #[.agg (Bo x p.gen p.root p.next).toArray,.int .u32 q,.agg (AA k).toArray] M [] λu M' z=>VfP p q k u M'/\z=[]:=by
 refine sB func188 ntmps188 ?_;intro W;refine W4 λE D C=>?_;refine gc (Dx p x M h n q) ?_;rintro _ w g rfl;refine gA λB=>?_;refine gj (λa=>?_) λa=>?_
 ·refine gr ?_;have d:Lq p q=BG p q:=if_neg a;exact⟨⟨Sx,⟨none,0,0⟩,_,rfl,BS.nil,.inr ⟨a,by unfold TN;rw[d,if_neg a]⟩⟩,rfl⟩
 refine gc (Tt p.st _ (As p q).root k w ((h.mono g).st)) ?_;rintro _ F o f;obtain⟨y,m,c,rfl,e,b⟩:=wVr f;refine gr ?_;have d:Lq p q=(AQ p.st (As p q).root).2:=if_pos (Classical.not_not.1 a);refine⟨⟨y,m,c,rfl,e,?_⟩,rfl⟩;rcases b with⟨j,i,s⟩|⟨j,i⟩
 ·exact .inl ⟨i,by unfold TN;rw[d,if_pos j];exact s⟩
 refine .inr ⟨j,?_⟩;unfold TN;split
 ·rename_i l;rw[d]at l;exact i l
 rfl
abbrev XU:TypeId:=28
def Pk(s:Sto)(i:Nat):Bool:=decide (8<=i)&&decide (ND .u8 ((s.now.getD i 0).toNat:Int) ((s.last.getD i 0).toNat:Int)=0)
def Jl(s:Sto)(n:Nat):List Nat:=(List.range n).filter (Pk s)
theorem Rf(s:Sto)(n:Nat):Jl s (n+1)=Jl s n++(if Pk s n then [n]else []):=by
 unfold Jl;rw[List.range_succ,List.filter_append];cases h:Pk s n<;>simp[h]
variable{n:Nat}{s:Sto}
theorem wBu(h:Pk s n=true):Jl s (n+1)=Jl s n++[n]:=by rw[Rf,if_pos h]
theorem Ng(h:¬Pk s n=true):Jl s (n+1)=Jl s n:=by rw[Rf,if_neg h,append_nil]
theorem Ur(s:Sto)(n:Nat):∀k,Jl s n<+:Jl s (n+k)
 |0=>List.prefix_rfl
 |k+1=>(Ur s n k).trans (by rw[<-Nat.add_assoc,Rf];exact List.prefix_append _ _)
theorem frN_8(s:Sto):Jl s 8=[]:=by
 unfold Jl;rw[List.filter_eq_nil_iff];intro x a;rw[List.mem_range]at a;unfold Pk;rw[decide_eq_false (by omega)];simp
theorem wVn(s:Sto)(n:Nat):(Jl s n).length<=n:=by
 unfold Jl;exact Nat.le_trans (List.length_filter_le _ _) (by rw[List.length_range];exact Nat.le_refl _)
theorem free_spec(e a c d:Value)(M:Mem):
  SpecL prog 253 #[.agg #[e,a,c,d]] M [] λu M' i=>∃b,u=.func (.func 306) #[] #[pB b]/\M' b=some (cE [e,a,c,d] XU)/\i=[]:=by
 refine sB func253 ntmps253 ?_;intro W;refine ga λf=>?_;refine AF f (by simp) ?_;intro j g h;refine gr ?_;exact⟨f,rfl,h,rfl⟩
theorem wHe(s:Sto)(O B C D:Value)(M:Mem)(h1:LS M O s.blocks)(h2:WS M B s.waits)(h3:BS M C s.now)(h4:BS M D s.last)(o:Av s)(b:Nat)(hb:M b=some (cE [O,B,C,D] XU))(l:Nat)(J T:List Nat->Mem->Lc->Prop)(m:Mem)(P:Lc)(K:MLe M m)(hJ:∀c y M2 L2,MLe m M2->J c M2 L2->c++[y]<+:Jl s 256->Em prog l ((λy:Nat=>[Value.int .i64 (y:Int)]) y).toArray M2 L2 λv M' L'=>(v=.bool true/\J (c++[y]) M' L')\/(v=.bool false/\T (c++[y]) M' L'))(h0:J [] m P):
  SpecL prog 306 #[.func (.yield l) #[] #[],pB b] m P λ_ M' L'=>J (Jl s 256) M' L'\/∃c,c<+:Jl s 256/\T c M' L':=by
 have w:∀{M2:Mem}(L:Lc)(i:Nat)(v:Value),MLe m M2->[O,B,C,D][i]? =some v->CJ M2 L b i v:=λL i v h U=>(CM.cj ⟨_,_,_,h _ _ (K _ _ hb),by simpa using U⟩ L);have V:s.now.length=256:=o.2.1.1;have Y:s.last.length=256:=o.2.2.1;obtain⟨na,nc,rfl,X,G⟩:=id h3;obtain⟨nb,no,N,F⟩:=G.open (by intro e;have:=congrArg length e;rw[Ad,length_nil]at this;omega);subst N;obtain⟨la,lc,rfl,Z,I⟩:=id h4;obtain⟨lb,lo,N,H⟩:=I.open (by intro e;have:=congrArg length e;rw[Ad,length_nil]at this;omega);subst N;refine sB func306 ntmps306 ?_;intro W;refine gh ?_;refine CC (α:=Nat×Mem×Lc) (λx=>[(0,.func (.yield l) #[] #[]),(1,pB b),(3,.int .i64 (x.1:Int))]) (λx=>x.2.1) (λx=>x.2.2) (λx=>8<=x.1/\x.1<=256/\MLe m x.2.1/\J (Jl s x.1) x.2.1 x.2.2) (λx=>256-x.1) (8,m,P) ⟨Nat.le_refl _,by show 8<=256;omega,MLe.refl _,by show J (Jl s 8) _ _;rw[frN_8];exact h0⟩ ?_;rintro⟨k,R,S⟩ ⟨u,hk,a,f⟩;try dsimp only at u hk a f⊢
 refine gj (λh5=>?_) λh5=>?_
 ·refine gh ?_;refine D7 [0,1,2,3,4,5,6,7,8,9,10,11,12,13,14,115,16,17] [] ?_;refine gh ?_;refine dq rfl (Au rfl rfl rfl rfl (w _ 2 _ a rfl)) ?_;refine gh ?_;refine dq rfl (Au rfl rfl rfl rfl (((F _ _ (by rw[Nat.mul_one];exact Ca (j:=k) (by omega))).mono (K.trans a)).cj _)) ?_;refine gh ?_;refine dq rfl (Au rfl rfl rfl rfl (w _ 3 _ a rfl)) ?_;refine gh ?_;refine dq rfl (Au rfl rfl rfl rfl (((H _ _ (by rw[Nat.mul_one];exact Ca (j:=k) (by omega))).mono (K.trans a)).cj _)) ?_;refine dq rfl (EW rfl rfl rfl rfl rfl) ?_;refine gj (λg=>?_) λg=>?_
  ·refine gh ?_;have d:Pk s k=true:=by
    unfold Pk;rw[decide_eq_true u,decide_eq_true g];rfl
   refine dh rfl (K4 rfl rfl rfl rfl (hJ (Jl s k) k R S a f (by rw[<-wBu d];have E:=Ur s (k+1) (256-(k+1));rwa[show k+1+(256-(k+1))=256 by omega]at E))) ?_;rintro _ M' _ ⟨z,Q,rfl,n⟩;refine⟨z,by simp,?_⟩;rw[<-wBu d]at n;rcases n with⟨rfl,n⟩|⟨rfl,n⟩
   ·refine gh ?_;refine BD (k+1,M',Q) ⟨by show 8<=k+1;omega,by show k+1<=256;omega,a.trans z,n⟩
   refine gh ?_;refine AB (L':=Q) (by simp) ?_;refine Pi (rs:=[]) rfl .nil ?_;exact .inr ⟨_,(by have E:=Ur s (k+1) (256-(k+1));rwa[show k+1+(256-(k+1))=256 by omega]at E),n⟩
  refine gh ?_;refine dk rfl rfl rfl rfl ?_;refine gh ?_;have d:¬Pk s k=true:=by
   unfold Pk;rw[decide_eq_false g];simp
  refine BD (k+1,R,S) ⟨by show 8<=k+1;omega,by show k+1<=256;omega,a,by show J (Jl s (k+1)) _ _;rw[Ng d];exact f⟩
 refine gh ?_;refine YU ?_;refine Pi (rs:=[]) rfl .nil ?_;obtain rfl:k=256:=by omega
 exact .inl f
theorem To(s:Sto)(f a c d:Value)(M:Mem)(n:LS M f s.blocks)(m:WS M a s.waits)(k:BS M c s.now)(j:BS M d s.last)(e:Av s)(b:Nat)(g:M b=some (cE [f,a,c,d] XU)):Iter prog 306 [pB b] M (λy:Nat=>[Value.int .i64 (y:Int)]) (Jl s 256):=
 λl J z u w h i o=>wHe s f a c d M n m k j e b g l J z u w h i o
def MV(xs:List Nat):List Value:=xs.map λy:Nat=>.int .i64 (y:Int)
abbrev TIS:TypeId:=30
def AI(b2:Nat)(pre:List Nat)(R:Lc):Prop:=∃v Rs,R=(b2,cE [v] TIS)::Rs/\Own v Rs 3 1 pre.length (MV pre)
theorem ZZ(lb:List Value)(xs:List Nat)(M:Mem)(f:Iter prog 306 lb M (λy:Nat=>[Value.int .i64 (y:Int)]) xs)(G:xs.length<=100000):
  SpecL prog 305 #[.slice none 0 0,.func (.func 306) #[] lb.toArray] M [] λv _ L'=>Own v L' 3 1 xs.length (MV xs):=by
 refine sB func305 ntmps305 ?_;intro W;refine gh ?_;refine lh (Bt rfl rfl rfl rfl) ?_;rintro _ _ _ ⟨k,rfl,rfl,rfl⟩;refine gh ?_;refine Ef (R:=[(k,cE [.slice none 0 0] TIS)]) (xs:=xs) (enc:=(λy:Nat=>[Value.int .i64 (y:Int)])) (ps:=[7]) rfl (by kernel_rfl) f
  (λb _ R=>AI k b R)
  (λ_ _ _ _=>False)
  (λ_=>rfl) (by decide) ⟨_,[],rfl,Own.nil _ _⟩ ?_ ?_ ?_
 ·intro l H b y E D g j e;obtain⟨v,Rs,rfl,a⟩:=j;obtain⟨s,o,rfl⟩:=a.form;refine gh ?_;refine jK λI=>?_;refine gh ?_;refine lh (Ab (cs:=[_]) rfl rfl rfl (by rfl) (by rfl) (by rfl)) ?_;rintro _ _ _ ⟨B,rfl,rfl,rfl⟩;refine lh (AY (R:=Rs) (m:=1) rfl rfl rfl rfl a rfl (λi v u=>CJ.loc (by simpa using u)) rfl (by rfl) (by simp[Value.oneCell']) (by have:=e.length_le;rw[List.length_append,List.length_singleton]at this;omega) (by omega)) ?_;rintro F _ _ ⟨rfl,n,rfl,c,_⟩;obtain⟨C,z,rfl⟩:=c.form;refine gh ?_;refine AM (L':=(k,cE [.slice C (b.length+1) z] TIS)::n) (λw h=>(h.perm List.perm_append_comm).fewer (.cons _ (.refl _))) ?_;refine wJi ?_;refine⟨_,n,rfl,?_⟩;rw[List.length_append];show Own _ _ _ _ _ (MV (b++[y]));rw[show MV (b++[y])=MV b++[.int .i64 (y:Int)]by simp[MV]];exact c
 ·intro d E D g j;obtain⟨v,Rs,rfl,a⟩:=j;obtain⟨s,o,rfl⟩:=a.form;simp only[List.cons_append,nil_append];refine gh ?_;refine Bu (L2:=_) Rm.perm ?_;refine AB (L':=Rs) (by simp) ?_;refine FX rfl rfl ?_;exact a
 intro _ _ _ _ _ _ _ h;exact h.elim
theorem UC(lb:List Value)(xs:List Nat)(M:Mem)(b:Iter prog 306 lb M (λy:Nat=>[Value.int .i64 (y:Int)]) xs)(c:xs.length<=100000):
  SpecL prog 252 #[.func (.func 306) #[] lb.toArray] M [] λv _ L'=>Own v L' 3 1 xs.length (MV xs):=by
 refine sB func252 ntmps252 ?_;intro W;refine gC (ZZ lb xs M b c) ?_;rintro _ f e d a;refine gh ?_;refine AB (L':=e) (by simp) ?_;refine FX rfl rfl ?_;exact a
theorem Qa(s:Sto)(i f g h:Value)(M:Mem)(o:LS M i s.blocks)(n:WS M f s.waits)(m:BS M g s.now)(l:BS M h s.last)(d:Av s):
  SpecL prog 170 #[.agg #[i,f,g,h]] M [] λu M' B=>(∃a c,u=.tuple #[.slice a (Jl s 256).length c,.int .i64 0])/\B=[]:=by
 have k:DJ s=0:=if_pos d;refine sB func170 ntmps170 ?_;intro W;refine ga λE=>?_;refine gQ (CK s _ M ⟨_,_,_,_,rfl,o,n,m,l⟩) ?_;refine jf rfl (decide_eq_false (by first|omega|(rw[k];decide))) ?_;refine gC (free_spec i f g h M) ?_;rintro _ y _ b ⟨w,rfl,j,rfl⟩;simp only[nil_append];refine gC (UC [pB w] (Jl s 256) y (To s i f g h y (o.mono b) (n.mono b) (m.mono b) (l.mono b) d w j) (by have:=wVn s 256;omega)) ?_;rintro _ G F z e;obtain⟨D,C,rfl⟩:=e.form;refine gr ?_;exact⟨⟨_,_,rfl⟩,rfl⟩
end Go.Proofs.YtjheijhahehnmaaGreatDoor
