/- Walks: the blocks that may be taken. -/
import Derived.Test.YtdahhoicackcaaaGreatZHn
import Derived.Test.YtdahhoicackcaaaGreatZDelf
import Derived.Test.YtdahhoicackcaaaGreatZDel
import Derived.Test.YtdahhoicackcaaaGreatZMlaw
import Derived.Test.YtdahhoicackcaaaGreatZIns
import Derived.Test.YtdahhoicackcaaaGreatZLeave
import Derived.Test.YtdahhoicackcaaaGreatZFind
import Derived.Test.YtdahhoicackcaaaGreatZRfind
import Derived.Test.YtdahhoicackcaaaGreatZPutf
import Derived.Test.YtdahhoicackcaaaGreatZHv
import Derived.Test.YtdahhoicackcaaaGreatZRing
namespace Go.Proofs.YtdahhoicackcaaaGreat
open Go.Proofs.Tryz
open List (nil_append length length_nil append_nil)
set_option linter.unusedSimpArgs false
set_option linter.unusedVariables false
set_option linter.unusedSectionVars false
open Go.RowKit
set_option maxRecDepth 8000
set_option maxHeartbeats 40000000
theorem YT(p:Po)(x:V5)(M:Mem)(h:PT5 M x p)(a:p.dead.length<=1000000)(v:Vo):SpecL prog 91 #[.agg (AO x p.gen p.root p.next).toArray,.agg (CU v).toArray] M [] λu M' e=>u=.int .i64 (asE p v)/\e=[]:=by
 cases b:cens p.st p.root p.next p.dead with
 |none=>exact wKb p x M h a v b
 |some c=>obtain⟨d,refs,nodes⟩:=c;exact wDm p x M h a v d refs nodes b
theorem wPa{p:Po}{v:Vo}(h:asE p v=0):8<=v.root/\v.root<256:=by
 unfold asE at h
 split at h
 ·cases h
 split at h
 ·cases h
 omega
theorem QA(s:Sto)(v:Value)(a:Int)(q:Ky)(M:Mem)(j:ST M v s):SpecL prog 67 #[v,.int .i64 a,.agg (AG q).toArray] M [] λu M' r=>PtPost (GO s a q) u M'/\r=[]:=by
 obtain⟨b,w,n,l,rfl,o,⟨i,h,c,rfl,f,d,e,g⟩,m,k⟩:=j.ex
 exact wDt s a q b n l i h c M o f d e g m k
def PtQ(r:Except Int (Sto×Int))(M':Mem)(a b c d:Sl)(n e:Int):Prop:=(e≠0/\r=.error e)\/(e=0/\∃t,r=.ok (t,n)/\Aq t/\LS M' a.v t.blocks/\WS M' b.v t.waits/\BS M' c.v t.now/\BS M' d.v t.last)
variable{M':Mem}{r:Except Int (Sto×Int)}{u:Value}
theorem PtPost.q(h:PtPost r u M'):∃(a b c d:Sl)(n e:Int),u=.tuple #[.agg #[a.v,b.v,c.v,d.v],.int .i64 n,.int .i64 e]/\PtQ r M' a b c d n e:=by
 match r with
 |.error e=>exact⟨⟨none,0,0⟩,⟨none,0,0⟩,⟨none,0,0⟩,⟨none,0,0⟩,0,e,h.2,.inl ⟨h.1,rfl⟩⟩
 |.ok (t,n)=>
  obtain⟨v,e,f,g⟩:=h
  obtain⟨a,b,c,d,rfl,l,k,j,i⟩:=f.four
  exact⟨a,b,c,d,n,0,e,.inr ⟨rfl,t,rfl,g,l,k,j,i⟩⟩
def PoP(r:Except Int Po)(u:Value)(M':Mem):Prop:=match r with
 |.error e=>e≠0/\u=.tuple #[.agg (AO Sh 0 0 0).toArray,.int .i64 e]
 |.ok q=>∃y,u=.tuple #[.agg (AO y q.gen q.root q.next).toArray,.int .i64 0]/\PT5 M' y q
def PoQ(r:Except Int Po)(M':Mem)(y:V5)(g r1 n e:Int):Prop:=(e≠0/\r=.error e)\/(e=0/\∃q,r=.ok q/\PT5 M' y q/\g=q.gen/\r1=q.root/\n=q.next)
theorem PoP.q{r:Except Int Po}(h:PoP r u M'):∃(y:V5)(g a n e:Int),u=.tuple #[.agg (AO y g a n).toArray,.int .i64 e]/\PoQ r M' y g a n e:=by
 match r with
 |.error e=>exact⟨Sh,0,0,0,e,h.2,.inl ⟨h.1,rfl⟩⟩
 |.ok q=>obtain⟨y,e,b⟩:=h;exact⟨y,q.gen,q.root,q.next,0,e,.inr ⟨rfl,q,rfl,b,rfl,rfl,rfl⟩⟩
def Dq(p:Po)(v:Vo):Except Int Po:=if asE p v=0 then (match Fw p.st p.root (BO v)with
 |.error e=>.error e
 |.ok (t,n)=>if Ax ⟨t,p.gen,n,p.next,p.dead⟩=0 then .ok ⟨t,p.gen,n,p.next,p.dead⟩else .error 8)else .error (asE p v)
variable{n:Int}{t:Sto}
theorem P7{p:Po}{v:Vo}(h:asE p v=0)(hp:Fw p.st p.root (BO v)=.ok (t,n)):Dq p v=if Ax ⟨t,p.gen,n,p.next,p.dead⟩=0 then .ok ⟨t,p.gen,n,p.next,p.dead⟩else .error 8:=by unfold Dq;rw[if_pos h,hp]
variable{e:Int}
theorem Yf{p:Po}{v:Vo}(h:asE p v=0)(hp:Fw p.st p.root (BO v)=.error e):Dq p v=.error e:=by unfold Dq;rw[if_pos h,hp]
def Uf(q:Int):Ky:=⟨1,q,0⟩
def Nf(p:Po)(q:Int):Except Int Po:=if volE p q=0 then (match GO p.st p.root (Uf q)with
 |.error e=>.error e
 |.ok (t,n)=>.ok ⟨t,p.gen,n,p.next,p.dead⟩)else .error (volE p q)
theorem H4(p:Po)(x:V5)(M:Mem)(h:PT5 M x p)(Z:p.dead.length<=1000000)(v:Vo)(hv:0<=v.id/\v.id<4294967296):
  SpecL prog 44 #[.agg (AO x p.gen p.root p.next).toArray,.agg (CU v).toArray] M [] λu M' L'=>PoP (Dq p v) u M'/\L'=[]:=by
 have g:BP (BO v).key:=⟨⟨by show (0:Int)<=1;omega,by show (1:Int)<256;omega⟩,hv,by show (0:Int)<=0;omega,by show (0:Int)<4294967296;omega⟩
 refine sB func44 ntmps44 ?_;intro W
 refine Rl λS b3 b4=>?_
 refine gc (YT p x M h Z v) ?_;rintro _ M1 o rfl
 refine gj (λr=>?_) λr=>?_
 ·refine gr ?_
  exact⟨by unfold Dq;rw[if_neg r];exact⟨r,rfl⟩,rfl⟩
 refine gh ?_
 have m:=Classical.not_not.1 r
 obtain⟨ae,ad⟩:=wPa m
 refine Cg ([(S,cE (AO x p.gen p.root p.next) 36),(b3,cE (CU v) 82)]) (by kernel_rfl) (by simp) ?_
 refine gk [0,1,2,3,4] ?_
 refine Ch (α:=Mem×Sl×Sl×Sl×Sl×Int×Int×Nat) (λy=>MLe M1 y.1/\PtQ (Fw p.st p.root (BO v)) y.1 y.2.1 y.2.2.1 y.2.2.2.1 y.2.2.2.2.1 y.2.2.2.2.2.1 y.2.2.2.2.2.2.1) (λy=>[(2,pB S),(3,pB b3),(4,pB b4),(7,.pointer (some ⟨y.2.2.2.2.2.2.2,0,none⟩)),(25,.agg #[y.2.1.v,y.2.2.1.v,y.2.2.2.1.v,y.2.2.2.2.1.v]),(26,.int .i64 y.2.2.2.2.2.1),(27,.int .i64 y.2.2.2.2.2.2.1)]) (λy=>y.1) (λy=>[(y.2.2.2.2.2.2.2,cE [.slice none 0 0,.slice none 0 0,.slice none 0 0,.slice none 0 0] 32),(b4,.cells poZ.toArray 36 (0,0)),(b3,cE (CU v) 82),(S,cE (AO x p.gen p.root p.next) 36)]) 3 #[true,true,true,true,true,true,true,true,true,true,true,true,false,false,false] ?_ (λe=>?_)
 ·rintro ⟨E,C,B,z,s,n,L,K⟩ ⟨H,l⟩
  try dsimp only at H l⊢
  refine aO 12 ?_
  refine My rfl rfl (Ae rfl rfl rfl rfl rfl rfl rfl rfl) ?_;rintro _ _ _ ⟨rfl,rfl⟩
  refine aG (H) ?_
  refine gk [13,14] ?_
  refine D3 (by kernel_rfl) ?_
  refine gj (λJ=>?_) λJ=>?_
  ·refine gr ?_
   obtain⟨h9,c⟩|⟨rfl,_⟩:=l
   rotate_left
   ·exact absurd rfl J
   exact⟨by rw[Yf m c];exact⟨h9,rfl⟩,rfl⟩
  refine gh ?_
  obtain⟨h9,_⟩|⟨rfl,t,c,ac,g1,g2,g3,g4⟩:=l
  ·exact absurd (Classical.not_not.1 J) h9
  refine Hr [6,8,10] [1,6,7,8,9,10] [0,1,2,3,5,104,106,7,108,9,110] E ([(K,.cells #[C.v,B.v,z.v,s.v] 32 (0,0)),(S,cE (AO x p.gen p.root p.next) 36)]) ([]) ?_
  refine gh ?_
  obtain⟨V,U,aa,ab,N⟩:=h.d
  refine dh rfl (Bu rfl rfl rfl rfl rfl (by kernel_rfl) (by rw[aa];exact De V _ U (Al p.dead) E (N.mono (o.trans H)) (Ay _) (DB _) Z)) ?_;rintro _ M4 _ ⟨i,R4,rfl,D⟩
  refine⟨i,by simp,?_⟩
  obtain⟨Q,P,rfl⟩:=D.form
  refine Ed rfl rfl (Ae rfl rfl rfl rfl rfl rfl rfl rfl) ?_;rintro _ _ _ ⟨rfl,rfl⟩
  refine⟨i,by simp,?_⟩
  refine Hq rfl rfl rfl (Ak rfl rfl rfl rfl rfl) ?_
  refine G1 rfl rfl (Ae rfl rfl rfl rfl rfl rfl rfl rfl) ?_;rintro _ _ _ ⟨rfl,rfl⟩
  refine⟨i,by simp,?_⟩
  refine Hq rfl rfl rfl (Ak rfl rfl rfl rfl rfl) ?_
  refine G1 rfl rfl (Ae rfl rfl rfl rfl rfl rfl rfl rfl) ?_;rintro _ _ _ ⟨rfl,rfl⟩
  refine⟨i,by simp,?_⟩
  refine Ld ?_
  refine wJm (jT (Ao (Ao ?_)))
  refine JF D (by simp) ?_
  intro M5 ag af a ed Y X;cases ed
  have R:=i.trans a
  have O:PT5 M5 ⟨C,B,z,s,⟨Q,p.dead.length,P⟩⟩ ⟨t,p.gen,n,p.next,p.dead⟩:=⟨g1.mono R,g2.mono R,g3.mono R,g4.mono R,⟨Q,P,rfl,Y,X⟩⟩
  refine gc (Fn ⟨t,p.gen,n,p.next,p.dead⟩ _ M5 O.pt Z) ?_;rintro _ M6 b rfl
  refine gj (λI=>?_) λI=>?_
  ·refine gr ?_
   exact⟨by rw[P7 m c,if_neg I];exact⟨by decide,rfl⟩,rfl⟩
  refine gr ?_
  exact⟨by rw[P7 m c,if_pos (Classical.not_not.1 I)];exact⟨_,rfl,O.mono b⟩,rfl⟩
 refine AR [5,11] (by kernel_rfl) rfl ⟨?_,?_,trivial⟩
 ·refine sh rfl (hC (NM v M1 (by omega))) ?_;rintro _ T _ ⟨a,R5,rfl,⟨G,F,rfl,k,j⟩,rfl⟩
  refine aG (a) ?_
  simp only[nil_append]
  refine AR [6,11] (by kernel_rfl) rfl ⟨?_,?_,trivial⟩
  ·refine sh rfl (hC (He p.st _ (.slice G (BO v).val.length F) p.root (BO v) T ((h.mono (o.trans a)).st) ⟨G,F,rfl,k,j⟩ g)) ?_;rintro _ E _ ⟨b,R6,rfl,f,rfl⟩
   refine aG ((a).trans b) ?_
   simp only[nil_append]
   obtain⟨C,B,z,s,n,L,rfl,l⟩:=f.q
   refine gk [7,8,9,10] ?_
   refine aO 11 ?_
   refine sh rfl (AM rfl rfl) ?_;rintro _ _ _ ⟨K,rfl,rfl,rfl⟩
   refine aG ((a.trans b)) ?_
   exact aR e (E,C,B,z,s,n,L,K) ⟨a.trans b,l⟩
  refine sh rfl (AM rfl rfl) ?_;rintro _ _ _ ⟨K,rfl,rfl,rfl⟩
  refine aG (a) ?_
  refine aO 6 ?_
  refine sh rfl (hC (He p.st _ (.slice G (BO v).val.length F) p.root (BO v) T ((h.mono (o.trans a)).st) ⟨G,F,rfl,k,j⟩ g)) ?_;rintro _ E _ ⟨b,R6,rfl,f,rfl⟩
  refine aG ((a).trans b) ?_
  simp only[nil_append]
  obtain⟨C,B,z,s,n,L,rfl,l⟩:=f.q
  refine gk [7,8,9,10] ?_
  exact aR e (E,C,B,z,s,n,L,K) ⟨a.trans b,l⟩
 refine sh rfl (AM rfl rfl) ?_;rintro _ _ _ ⟨K,rfl,rfl,rfl⟩
 refine aG (MLe.refl _) ?_
 refine aO 5 ?_
 refine sh rfl (hC (NM v M1 (by omega))) ?_;rintro _ T _ ⟨a,R5,rfl,⟨G,F,rfl,k,j⟩,rfl⟩
 refine aG (a) ?_
 simp only[nil_append]
 refine aO 6 ?_
 refine sh rfl (hC (He p.st _ (.slice G (BO v).val.length F) p.root (BO v) T ((h.mono (o.trans a)).st) ⟨G,F,rfl,k,j⟩ g)) ?_;rintro _ E _ ⟨b,R6,rfl,f,rfl⟩
 refine aG ((a).trans b) ?_
 simp only[nil_append]
 obtain⟨C,B,z,s,n,L,rfl,l⟩:=f.q
 refine gk [7,8,9,10] ?_
 exact aR e (E,C,B,z,s,n,L,K) ⟨a.trans b,l⟩
set_option maxRecDepth 8000
set_option maxHeartbeats 40000000
def Lx(xs:List By)(k:Int):Int:=if DR xs then (if k<8\/256<=k then 2 else if xs.getD k.toNat 0=255 then 70 else 0)else 8
def wFx(xs:List By)(k:Int):List By:=xs.set k.toNat (xs.getD k.toNat 0+1)
def StP(r:Except Int Sto)(u:Value)(M':Mem):Prop:=match r with
 |.error e=>e≠0/\u=.tuple #[.agg zeroSt.toArray,.int .i64 e]
 |.ok t=>∃v,u=.tuple #[v,.int .i64 0]/\ST M' v t/\Aq t
def E7(s:Sto)(k:Int):Except Int Sto:=if askE s k=0 then (if s.now.getD k.toNat 0=255 then .error 70 else .ok (AQ s k.toNat))else .error (askE s k)
def lvS(s:Sto)(k:Int):Except Int Sto:=match leave s k with|none=>.error 8|some t=>.ok t
def Gl(s:Sto)(k:Int):Except Int Sto:=if askE s k=0 then lvS s k else .error (askE s k)
def Fo(s:Sto)(k:Int):Except Int Sto:=if askE s k=0 then .ok (AF s k.toNat)else .error (askE s k)
theorem V1(xs:List By)(a:Option Addr)(c:Nat)(M:Mem)(I:xs.length<=c)(hs:SM M a (Ab xs))(K:xs.length<=100000)(k:Int):
  SpecL prog 208 #[.slice a xs.length c,.int .i64 k,.int .u8 1,.int .u8 255] M [] λu M' S=>(∃v,u=.tuple #[v,.int .i64 (Lx xs k)]/\(Lx xs k=0->BS M' v (wFx xs k))/\(Lx xs k≠0->v=.slice none 0 0))/\S=[]:=by
 refine sB func208 ntmps208 ?_;intro W
 refine gQ (DN xs _ M ⟨_,_,rfl,I,hs⟩) ?_
 refine gj (λg=>?_) λg=>?_
 ·refine gr ?_
  have n:¬DR xs:=λh=>g (by unfold FO;rw[if_pos h])
  have d:Lx xs k=8:=if_neg n
  have y:FO xs=8:=if_neg n
  exact⟨⟨_,by rw[d,y],λh=>absurd h (by rw[d];decide),λ_=>rfl⟩,rfl⟩
 refine gj (λE=>?_) λE=>?_
 ·refine gr ?_
  have b:DR xs:=Classical.byContradiction λh=>g (by unfold FO;rw[if_neg h];decide)
  have d:Lx xs k=2:=by unfold Lx;rw[if_pos b,if_pos (by omega)]
  exact⟨⟨_,by rw[d],λh=>absurd h (by rw[d];decide),λ_=>rfl⟩,rfl⟩
 refine gj (λD=>?_) λD=>?_
 ·refine gr ?_
  have b:DR xs:=Classical.byContradiction λh=>g (by unfold FO;rw[if_neg h];decide)
  have d:Lx xs k=2:=by unfold Lx;rw[if_pos b,if_pos (by omega)]
  exact⟨⟨_,by rw[d],λh=>absurd h (by rw[d];decide),λ_=>rfl⟩,rfl⟩
 refine gh ?_
 have b:DR xs:=Classical.byContradiction λh=>g (by unfold FO;rw[if_neg h];decide)
 have J:xs.length=256:=b.1
 obtain⟨V,T,F,t⟩:=hs.open (by intro e;have:=congrArg length e;rw[Af,length_nil]at this;omega)
 subst F
 have o:(Ab xs)[k.toNat]? =some (.int .u8 ((xs.getD k.toNat 0).toNat:Int)):=Cc (by omega)
 refine gh ?_
 refine lq (AE rfl rfl rfl rfl ((t _ _ (by rw[Nat.mul_one];exact o)).cj _)) ?_
 refine gj (λl=>?_) λl=>?_
 ·refine gr ?_
  have d:Lx xs k=70:=by unfold Lx;rw[if_pos b,if_neg (by omega),if_pos (UInt8.toNat_inj.1 (show (xs.getD k.toNat 0).toNat=(255:UInt8).toNat by have Y:((xs.getD k.toNat 0).toNat:Int)=255:=l;have X:(255:UInt8).toNat=255:=rfl;omega))]
  exact⟨⟨_,by rw[d],λh=>absurd h (by rw[d];decide),λ_=>rfl⟩,rfl⟩
 refine gh ?_
 have i:=(λe=>l (by rw[e];rfl):¬xs.getD k.toNat 0=255)
 obtain⟨z,L⟩:=Vy i
 refine gC (Hd _ xs M ⟨_,_,rfl,I,hs⟩ K) ?_;rintro _ M1 R1 O f
 obtain⟨ca,Z,B⟩:=f.form
 subst B
 obtain⟨U,H,G,F,Q,_⟩:=f.open (by omega)
 cases F;cases Q
 refine gh ?_
 refine lq (AE rfl rfl rfl rfl (by rw[Nat.mul_one,Nat.zero_add];exact f.cj (by simp) o)) ?_
 refine gh ?_
 refine lq (wMo rfl rfl rfl rfl rfl (by rw[IntKind.wrap_u8];omega)) ?_
 refine gh ?_
 refine Dz rfl (CZ rfl rfl rfl rfl rfl rfl f rfl (by omega)) ?_;rintro _ _ _ ⟨rfl,R,rfl,j⟩
 refine gh ?_
 refine Cj j (by simp) ?_
 intro M2 a2 c2 N P C s;cases P
 refine gr ?_
 have d:Lx xs k=0:=by unfold Lx;rw[if_pos b,if_neg (by omega),if_neg i]
 have m:(wFx xs k).length=xs.length:=by unfold wFx;simp
 have r:Ab (wFx xs k)=(Ab xs).set k.toNat (.int .u8 (((xs.getD k.toNat 0).toNat:Int)+1)):=by unfold wFx Ab;rw[List.map_set,z]
 exact⟨⟨_,by rw[d],λ_=>⟨_,_,by rw[m],by rw[m];exact C,by rw[r];have:=s;rw[Nat.mul_one,Nat.zero_add]at this;exact this⟩,λh=>absurd d h⟩,rfl⟩
theorem V2(xs:List By)(v:Value)(M:Mem)(h:BS M v xs)(d:xs.length<=100000)(k:Int):SpecL prog 208 #[v,.int .i64 k,.int .u8 1,.int .u8 255] M [] λu M' f=>(∃v,u=.tuple #[v,.int .i64 (Lx xs k)]/\(Lx xs k=0->BS M' v (wFx xs k))/\(Lx xs k≠0->v=.slice none 0 0))/\f=[]:=by
 obtain⟨a,c,rfl,e,b⟩:=h
 exact V1 xs a c M e b d k
variable{M':Mem}{k:Int}{u:Value}{xs:List By}
theorem wFw(h:∃v,u=.tuple #[v,.int .i64 (Lx xs k)]/\(Lx xs k=0->BS M' v (wFx xs k))/\(Lx xs k≠0->v=.slice none 0 0)):∃a n c,u=.tuple #[.slice a n c,.int .i64 (Lx xs k)]/\(Lx xs k=0->BS M' (.slice a n c) (wFx xs k)):=by
 obtain⟨v,rfl,g,f⟩:=h
 by_cases b:Lx xs k=0
 ·obtain ⟨a,c,rfl,e,d⟩:=g b
  exact⟨a,_,c,rfl,λ_=>⟨a,c,rfl,e,d⟩⟩
 rw[f b];exact⟨none,0,0,rfl,λh=>absurd h b⟩
theorem wDx(xs:List By)(v:Value)(M:Mem)(h:BS M v xs)(i:xs.length<=100000)(k:Int):
  SpecL prog 169 #[v,.int .i64 k] M [] λu M' l=>(∃a n c,u=.tuple #[.slice a n c,.int .i64 (Lx xs k)]/\(Lx xs k=0->BS M' (.slice a n c) (wFx xs k)))/\l=[]:=by
 refine sB func169 ntmps169 ?_;intro W
 refine gc (V2 xs v M h i k) ?_;rintro _ m j b
 obtain⟨g,e,f,rfl,d⟩:=wFw b
 refine gr ?_
 exact⟨⟨g,e,f,rfl,d⟩,rfl⟩
theorem SD(s:Sto)(k:Int)(z j nv lv:Value)(M:Mem)(y:ST M (.agg #[z,j,nv,lv]) s)(E:LS M z s.blocks)(D:WS M j s.waits)(C:BS M nv s.now)(B:BS M lv s.last):
  SpecL prog 105 #[.agg #[z,j,nv,lv],.int .i64 k] M [] λu M' L'=>StP (E7 s k) u M'/\L'=[]:=by
 obtain⟨N,I,_,rfl,_⟩:=id E
 obtain⟨L,H,_,rfl,_⟩:=id D
 obtain⟨K,G,rfl,_⟩:=id C
 obtain⟨J,F,rfl,_⟩:=id B
 refine sB func105 ntmps105 ?_;intro W
 refine EV λb2 b4=>?_
 refine gQ (PE s k _ _ _ _ M y) ?_
 refine gj (λb=>?_) λb=>?_
 ·refine gr ?_
  exact⟨by unfold E7;rw[if_neg b];exact⟨b,rfl⟩,rfl⟩
 refine gh ?_
 obtain⟨f,R,r,Q⟩:=RT (Classical.not_not.1 b)
 have c:Lx s.now k=if s.now.getD k.toNat 0=255 then 70 else 0:=by unfold Lx;rw[if_pos f.2.1,if_neg (by omega)]
 obtain⟨t,⟨n,_⟩,⟨o,_⟩⟩:=id f
 refine gc (wDx s.now _ M C (by omega) k) ?_;rintro _ Z g ⟨ua,un,uc,rfl,l⟩
 refine gj (λh=>?_) λh=>?_
 ·refine gr ?_
  have a:s.now.getD k.toNat 0=255:=Classical.byContradiction λe=>h (by rw[c,if_neg e])
  rw[if_pos a]at c
  exact⟨by unfold E7;rw[if_pos (Classical.not_not.1 b),if_pos a];exact⟨by decide,by rw[c];rfl⟩,rfl⟩
 refine gh ?_
 have i:Lx s.now k=0:=Classical.not_not.1 h
 have a:¬s.now.getD k.toNat 0=255:=λe=>by rw[i,if_pos e]at c;cases c
 have m:=HO (s:=s) (k:=k.toNat) f (by omega)
 have P:=Gv s k.toNat
 refine gc (Jo (AQ s k.toNat) _ _ _ _ Z (E.mono g) (D.mono g) (l i) (B.mono g) t (by omega) (by show s.last.length<=_;omega)) ?_;rintro _ M2 S d
 obtain⟨q1,q2,q3,q4,rfl,X,V,U,T⟩:=d.ex
 obtain⟨ba,bc,Y,rfl,_⟩:=id X
 obtain⟨wa,wc,O,rfl,_⟩:=id V
 obtain⟨na,nc,rfl,_⟩:=id U
 obtain⟨la,lc,rfl,_⟩:=id T
 refine gr ?_
 exact⟨by unfold E7;rw[if_pos (Classical.not_not.1 b),if_neg a];exact⟨_,rfl,d,m⟩,rfl⟩
set_option maxRecDepth 8000
set_option maxHeartbeats 40000000
theorem LV(s:Sto)(k:Int)(t r nv lv:Value)(M:Mem)(f:ST M (.agg #[t,r,nv,lv]) s):
  SpecL prog 129 #[.agg #[t,r,nv,lv],.int .i64 k] M [] λu _ _=>u=.int .i64 (askE s k):=by
 obtain⟨E,y,z,B,i,O,N,D,L⟩:=f.ex
 simp only[Value.agg.injEq,Array.mk.injEq,List.cons.injEq,and_true]at i
 obtain⟨rfl,rfl,rfl,rfl⟩:=i
 obtain⟨I,G,rfl,C,c⟩:=D
 have b:=Sn s
 refine sB func129 ntmps129 ?_;intro W
 refine ga λP=>?_
 refine gQ (CD s _ M f) ?_
 refine gj (λg=>?_) λg=>?_
 ·refine gr ?_
  have c:¬Aq s:=λh=>g (by rw[b,if_pos h])
  show Value.int .i64 (Dp s)=_
  unfold askE;rw[if_neg c,b,if_neg c]
 refine gj (λo=>?_) λo=>?_
 ·refine gr ?_
  have a:Aq s:=Classical.byContradiction λh=>g (by rw[b,if_neg h];decide)
  unfold askE;rw[if_pos a,if_pos (by omega)]
 refine gj (λn=>?_) λn=>?_
 ·refine gr ?_
  have a:Aq s:=Classical.byContradiction λh=>g (by rw[b,if_neg h];decide)
  unfold askE;rw[if_pos a,if_pos (by omega)]
 refine gh ?_
 have a:Aq s:=Classical.byContradiction λh=>g (by rw[b,if_neg h];decide)
 have m:s.now.length=256:=a.2.1.1
 obtain⟨H,F,i,l⟩:=c.open (by intro e;have:=congrArg length e;rw[Af,length_nil]at this;omega)
 subst i
 refine gh ?_
 refine lq (AE rfl rfl rfl rfl ((l _ _ (by rw[Nat.mul_one];exact Cc (j:=k.toNat) (by omega))).cj _)) ?_
 refine gj (λd=>?_) λd=>?_
 ·refine gr ?_
  unfold askE;rw[if_pos a,if_neg (by omega),if_pos (UInt8.toNat_inj.1 (show (s.now.getD k.toNat 0).toNat=(0:UInt8).toNat by have K:((s.now.getD k.toNat 0).toNat:Int)=0:=d;have J:(0:UInt8).toNat=0:=rfl;omega))]
 refine gr ?_
 unfold askE;rw[if_pos a,if_neg (by omega),if_neg (λe=>d (by rw[e];rfl))]
theorem RB(s:Sto)(k:Int)(hk:8<=k/\k<256)(c:Aq s)(b:Nat)(M:Mem)(g:Lc)(f:BOwn M b g s)(i:Nat)(d:M i=some (cE [.int .i64 k] 3)):
  SpecL prog 131 #[pB b,pB i] M g (LvPost s k b):=by
 refine sB func131 ntmps131 ?_;intro W
 refine gh ?_
 refine lq (AE rfl rfl rfl rfl (CM.cj ⟨_,_,_,d,rfl⟩ _)) ?_
 refine gC (GG s k hk c b M g f) ?_;rintro _ m l j a
 obtain⟨e,rfl,h⟩:=LvPost.form a
 refine jp rfl ?_
 refine Am (jT (Bs ?_))
 refine Gd rfl rfl ?_
 rw[append_nil]
 exact a
theorem RA(s:Sto)(k:Int)(hk:8<=k/\k<256)(b:Aq s)(a:Nat)(M:Mem)(g:Lc)(f:BOwn M a g s)(h:Nat)(e:M h=some (cE [.int .i64 k] 3)):
  SpecL prog 135 #[pB a,pB h] M g λu M' j=>u=.int .i64 (looseE s k.toNat)/\(looseE s k.toNat=0->BOwn M' a j (AF s k.toNat)):=by
 have c:s.now.length=256:=b.2.1.1
 obtain⟨n,rfl⟩:∃n:Nat,k=(n:Int):=⟨k.toNat,by omega⟩
 rw[Int.toNat_natCast]
 refine sB func135 ntmps135 ?_;intro W
 refine gh ?_
 refine lq (AE rfl rfl rfl rfl (CM.cj ⟨_,_,_,e,rfl⟩ _)) ?_
 refine gC (Gc s n a (by omega) M g f) ?_;rintro _ m l i ⟨rfl,d⟩
 refine jp rfl ?_
 refine Am (jT (Bs ?_))
 refine Gd rfl rfl ?_
 rw[append_nil]
 exact⟨rfl,d⟩
theorem VY(s:Sto)(k:Int)(hk:8<=k/\k<256)(y:Aq s)(bv nv lw:Value)(o:Option Addr)(G:Nat)(a:List (Wt×Value))(M:Mem)(h1:LS M bv s.blocks)(O:s.waits.length<=G)(N:SM M o (a.flatMap AT))(c:a.map (·.1)=s.waits)(r:∀p∈a,BS M p.2 p.1.2)(h3:BS M nv s.now)(h4:BS M lw s.last)(X:Nat)(U:M X=some (cE [.int .i64 k] 3)):
  SpecL prog 130 #[.agg #[bv,.slice o s.waits.length G,nv,lw],.func (.func 131) #[] #[pB X]] M [] λu M' L'=>StP (lvS s k) u M'/\L'=[]:=by
 obtain⟨T,⟨Q,_⟩,⟨S,_⟩⟩:=id y
 have aj:s.waits.length<=4096:=T.2.1
 obtain⟨n,l,_,rfl,_⟩:=id h1
 obtain⟨ac,ab,rfl,_⟩:=id h3
 obtain⟨m,j,rfl,_⟩:=id h4
 refine sB func130 ntmps130 ?_;intro W
 refine EV λb2 b4=>?_
 refine gC (K2 s _ _ _ o G M O (by omega) h3 (by omega)) ?_;rintro _ M1 _ b ⟨F,Rn,na,Z,rfl,rfl,z⟩
 have V:BOwn M1 F ((F,cE [(.slice n s.blocks.length l),.slice o s.waits.length s.waits.length,.slice na s.now.length Z,(.slice m s.last.length j)] Ee)::Rn) s:=by
  refine⟨(.slice n s.blocks.length l),_,na,Z,(.slice m s.last.length j),[],Rn,rfl,h1.mono b,h4.mono b,z,a,c,λp hp=>(r p hp).mono b,?_⟩
  have B:(a.flatMap AT).length=s.waits.length*2:=by rw[Aj AT 2 Bl,<-c,List.length_map]
  rcases N with h0|⟨wb,wo,rfl,L⟩
  ·have hz:s.waits.length=0:=by rw[h0,length_nil]at B;omega
   rw[h0,hz]
   cases o with
   |none=>exact .inl (Own.nil _ _)
   |some ba=>exact .inr ⟨rfl,rfl,ba,rfl,.inl rfl,λi u P=>by cases P⟩
  exact .inr ⟨rfl,B,_,rfl,.inr rfl,λi u P=>(L i u P).mono b⟩
 refine gC (RB s k hk y F M1 _ V X (b _ _ U)) ?_;rintro _ M2 R2 ap R
 obtain⟨e,rfl,g⟩:=LvPost.form R
 refine gj (λE=>?_) λE=>?_
 ·refine gr ?_
  obtain⟨rfl,h⟩|⟨rfl,_⟩:=g
  rotate_left
  ·exact absurd rfl E
  exact⟨by unfold lvS;rw[h];exact⟨by decide,rfl⟩,rfl⟩
 refine gh ?_
 obtain⟨_,_⟩|⟨_,t,h,f,D⟩:=g
 ·exfalso;omega
 obtain⟨C,⟨ak,_⟩,⟨al,_⟩⟩:=id f
 refine Kq (s:=t) D (by simp) ?_
 intro M3 K H I J ao e3 k1 k2 k3 k4
 refine gc (DP t F K H I J M3 e3 k1 k2 k3 k4 C (by omega) (by omega)) ?_;rintro _ M4 am d
 obtain⟨q1,q2,q3,q4,rfl,f1,f2,f3,f4⟩:=d.ex
 obtain⟨au,aq,aa,rfl,_⟩:=id f1
 obtain⟨ae,ad,Y,rfl,_⟩:=id f2
 obtain⟨ag,af,rfl,_⟩:=id f3
 obtain⟨ai,ah,rfl,_⟩:=id f4
 refine gr ?_
 exact⟨by unfold lvS;rw[h];exact⟨_,rfl,d,f⟩,rfl⟩
theorem VX(s:Sto)(k:Int)(hk:8<=k/\k<256)(g:Aq s)(bv nv Z:Value)(n:Option Addr)(C:Nat)(a:List (Wt×Value))(M:Mem)(h1:LS M bv s.blocks)(J:s.waits.length<=C)(I:SM M n (a.flatMap AT))(d:a.map (·.1)=s.waits)(o:∀p∈a,BS M p.2 p.1.2)(h3:BS M nv s.now)(h4:BS M Z s.last)(U:Nat)(Q:looseE s k.toNat=0)(S:M U=some (cE [.int .i64 k] 3)):
  SpecL prog 130 #[.agg #[bv,.slice n s.waits.length C,nv,Z],.func (.func 135) #[] #[pB U]] M [] λu M' L'=>StP (.ok (AF s k.toNat)) u M'/\L'=[]:=by
 obtain⟨R,⟨N,_⟩,⟨P,_⟩⟩:=id g
 have aj:s.waits.length<=4096:=R.2.1
 obtain⟨m,j,_,rfl,_⟩:=id h1
 obtain⟨ac,ab,rfl,_⟩:=id h3
 obtain⟨l,h,rfl,_⟩:=id h4
 refine sB func130 ntmps130 ?_;intro W
 refine EV λb2 b4=>?_
 refine gC (K2 s _ _ _ n C M J (by omega) h3 (by omega)) ?_;rintro _ M1 _ c ⟨B,Rn,Y,X,rfl,rfl,r⟩
 have T:BOwn M1 B ((B,cE [(.slice m s.blocks.length j),.slice n s.waits.length s.waits.length,.slice Y s.now.length X,(.slice l s.last.length h)] Ee)::Rn) s:=by
  refine⟨(.slice m s.blocks.length j),_,Y,X,(.slice l s.last.length h),[],Rn,rfl,h1.mono c,h4.mono c,r,a,d,λp hp=>(o p hp).mono c,?_⟩
  have y:(a.flatMap AT).length=s.waits.length*2:=by rw[Aj AT 2 Bl,<-d,List.length_map]
  rcases I with h0|⟨wb,wo,rfl,H⟩
  ·have hz:s.waits.length=0:=by rw[h0,length_nil]at y;omega
   rw[h0,hz]
   cases n with
   |none=>exact .inl (Own.nil _ _)
   |some ba=>exact .inr ⟨rfl,rfl,ba,rfl,.inl rfl,λi u K=>by cases K⟩
  exact .inr ⟨rfl,y,_,rfl,.inr rfl,λi u K=>(H i u K).mono c⟩
 refine gC (RA s k hk g B M1 _ T U (c _ _ S)) ?_;rintro _ M2 R2 ap ⟨rfl,O⟩
 refine gt ?_
 have f:=O Q
 have b:=CY (s:=s) (k:=k.toNat) g (by omega)
 obtain⟨t,L⟩:∃t,t=AF s k.toNat:=⟨_,rfl⟩
 rw[<-L]at f b
 obtain⟨z,⟨ak,_⟩,⟨al,_⟩⟩:=id b
 refine Kq (s:=t) f (by simp) ?_
 intro M3 G D E F ao e3 k1 k2 k3 k4
 refine gc (DP t B G D E F M3 e3 k1 k2 k3 k4 z (by omega) (by omega)) ?_;rintro _ M4 am e
 obtain⟨q1,q2,q3,q4,rfl,f1,f2,f3,f4⟩:=e.ex
 obtain⟨au,aq,aa,rfl,_⟩:=id f1
 obtain⟨ae,ad,V,rfl,_⟩:=id f2
 obtain⟨ag,af,rfl,_⟩:=id f3
 obtain⟨ai,ah,rfl,_⟩:=id f4
 refine gr ?_
 exact⟨⟨_,rfl,by rw[<-L];exact e,by rw[<-L];exact b⟩,rfl⟩
variable{M':Mem}{r:Except Int Sto}{u:Value}
theorem StP.form(h:StP r u M'):∃(a b c d:Option Addr×Nat×Nat)(e:Int),u=.tuple #[.agg #[.slice a.1 a.2.1 a.2.2,.slice b.1 b.2.1 b.2.2,.slice c.1 c.2.1 c.2.2,.slice d.1 d.2.1 d.2.2],.int .i64 e]/\((e≠0/\r=.error e)\/(e=0/\∃t,r=.ok t/\Aq t/\ST M' (.agg #[.slice a.1 a.2.1 a.2.2,.slice b.1 b.2.1 b.2.2,.slice c.1 c.2.1 c.2.2,.slice d.1 d.2.1 d.2.2]) t)):=by
 match r with
 |.error e=>exact⟨(none,0,0),(none,0,0),(none,0,0),(none,0,0),e,h.2,.inl ⟨h.1,rfl⟩⟩
 |.ok t=>
  obtain⟨v,e,y,m⟩:=h
  obtain⟨I,H,G,F,rfl,E,D,C,B⟩:=y.ex
  obtain⟨o,n,z,rfl,_⟩:=id E
  obtain⟨g,f,s,rfl,_⟩:=id D
  obtain⟨j,i,rfl,_⟩:=id C
  obtain⟨l,k,rfl,_⟩:=id B
  exact⟨(o,_,n),(g,_,f),(j,_,i),(l,_,k),0,e,.inr ⟨rfl,t,rfl,m,y⟩⟩
theorem TK(s:Sto)(k:Int)(r f nv lv:Value)(M:Mem)(o:ST M (.agg #[r,f,nv,lv]) s)(z:LS M r s.blocks)(O:WS M f s.waits)(y:BS M nv s.now)(t:BS M lv s.last):
  SpecL prog 72 #[.agg #[r,f,nv,lv],.int .i64 k] M [] λu M' R=>StP (Gl s k) u M'/\R=[]:=by
 obtain⟨H,E,_,rfl,_⟩:=id z
 obtain⟨J,I,g,rfl,j,h,i,l⟩:=id O
 obtain⟨G,D,rfl,_⟩:=id y
 obtain⟨F,C,rfl,_⟩:=id t
 refine sB func72 ntmps72 ?_;intro W
 refine ga λX=>?_
 refine lh (Bf rfl rfl rfl rfl) ?_;rintro _ _ _ ⟨B,rfl,rfl,rfl⟩
 refine ga λV=>?_
 refine gQ (LV s k _ _ _ _ M o) ?_
 refine gj (λb=>?_) λb=>?_
 ·refine gr ?_
  exact⟨by unfold Gl;rw[if_neg b];exact⟨b,rfl⟩,rfl⟩
 refine gh ?_
 obtain⟨m,n,c,L⟩:=RT (Classical.not_not.1 b)
 refine Cx B (by simp) ?_
 intro Q a P
 refine gc (VY s k ⟨n,c⟩ m _ _ _ J I g Q (z.mono a) j (h.mono a) i (λp K=>(l p K).mono a) (y.mono a) (t.mono a) B P) ?_;rintro _ Y N d
 obtain⟨z1,z2,T,S,e,rfl,U⟩:=StP.form d
 refine gr ?_
 exact⟨by unfold Gl;rw[if_pos (Classical.not_not.1 b)];exact d,rfl⟩
theorem TJ(s:Sto)(k:Int)(t f nv lv:Value)(M:Mem)(r:ST M (.agg #[t,f,nv,lv]) s)(B:LS M t s.blocks)(O:WS M f s.waits)(z:BS M nv s.now)(y:BS M lv s.last):
  SpecL prog 75 #[.agg #[t,f,nv,lv],.int .i64 k] M [] λu M' R=>StP (Fo s k) u M'/\R=[]:=by
 obtain⟨I,F,_,rfl,_⟩:=id B
 obtain⟨K,J,g,rfl,j,h,i,l⟩:=id O
 obtain⟨H,E,rfl,_⟩:=id z
 obtain⟨G,D,rfl,_⟩:=id y
 refine sB func75 ntmps75 ?_;intro W
 refine ga λX=>?_
 refine lh (Bf rfl rfl rfl rfl) ?_;rintro _ _ _ ⟨C,rfl,rfl,rfl⟩
 refine ga λV=>?_
 refine gQ (LV s k _ _ _ _ M r) ?_
 refine gj (λb=>?_) λb=>?_
 ·refine gr ?_
  exact⟨by unfold Fo;rw[if_neg b];exact⟨b,rfl⟩,rfl⟩
 refine gh ?_
 obtain⟨m,o,c,n⟩:=RT (Classical.not_not.1 b)
 refine Cx C (by simp) ?_
 intro Q a P
 refine gc (VX s k ⟨o,c⟩ m _ _ _ K J g Q (B.mono a) j (h.mono a) i (λp L=>(l p L).mono a) (z.mono a) (y.mono a) C (if_neg n) P) ?_;rintro _ Y N d
 obtain⟨z1,z2,T,S,e,rfl,U⟩:=StP.form d
 refine gr ?_
 exact⟨by unfold Fo;rw[if_pos (Classical.not_not.1 b)];exact d,rfl⟩
theorem HB(s:Sto)(k:Int)(v:Value)(M:Mem)(h:ST M v s):SpecL prog 72 #[v,.int .i64 k] M [] λu M' f=>StP (Gl s k) u M'/\f=[]:=by
 obtain⟨b,w,n,l,rfl,e,d,c,a⟩:=h.ex
 exact TK s k b w n l M h e d c a
theorem LU(s:Sto)(k:Int)(v:Value)(M:Mem)(h:ST M v s):SpecL prog 75 #[v,.int .i64 k] M [] λu M' f=>StP (Fo s k) u M'/\f=[]:=by
 obtain⟨b,w,n,l,rfl,e,d,c,a⟩:=h.ex
 exact TJ s k b w n l M h e d c a
theorem FE(s:Sto)(k:Int)(v:Value)(M:Mem)(h:ST M v s):SpecL prog 105 #[v,.int .i64 k] M [] λu M' f=>StP (E7 s k) u M'/\f=[]:=by
 obtain⟨b,w,n,l,rfl,e,d,c,a⟩:=h.ex
 exact SD s k b w n l M h e d c a
set_option maxRecDepth 8000
set_option maxHeartbeats 40000000
def daE(p:Po)(k:Int)(held:Bool):Int:=if Ax p=0 then (if k<8\/256<=k then 2 else if p.st.now.getD k.toNat 0=0\/k∈BH p\/(held=true/\((p.st.now.getD k.toNat 0).toNat:Int)<=(BK p).getD k.toNat 0)then 6 else 0)else Ax p
variable{j:Nat}{xs:List Int}
theorem iget(h:j<xs.length):(Al xs)[j]? =some (.int .i64 (xs.getD j 0)):=by simp[Al,List.getD,h]
theorem Va(p:Po):(BH p).length<=256:=by
 unfold BH
 split
 ·simp
 exact SY _ _
theorem Hf{p:Po}(h:Ax p=0):Aq p.st:=(PoOk.of h).st
variable{b:Bool}{k:Int}
theorem wKd{p:Po}(h:¬Ax p=0):daE p k b=Ax p:=if_neg h
theorem GP{p:Po}(h:Ax p=0)(hk:k<8\/256<=k):daE p k b=2:=by unfold daE;rw[if_pos h,if_pos hk]
theorem BE{p:Po}(h:Ax p=0)(hk:¬(k<8\/256<=k))(a:((p.st.now.getD k.toNat 0).toNat:Int)=0\/k∈BH p\/(b=true/\((p.st.now.getD k.toNat 0).toNat:Int)<=(BK p).getD k.toNat 0)):daE p k b=6:=by
 unfold daE;rw[if_pos h,if_neg hk,if_pos (a.imp (λh=>UInt8.toNat.inj (by have c:(0:By).toNat=0:=rfl;omega)) id)]
theorem B5{p:Po}(h:Ax p=0)(hk:¬(k<8\/256<=k))(f:¬((p.st.now.getD k.toNat 0).toNat:Int)=0)(d:k∉BH p)(c:¬(b=true/\((p.st.now.getD k.toNat 0).toNat:Int)<=(BK p).getD k.toNat 0)):daE p k b=0:=by
 unfold daE;rw[if_pos h,if_neg hk,if_neg λa=>a.elim (λe=>f (by rw[e];rfl)) λa=>a.elim d c]
theorem da_ok{p:Po}(h:daE p k b=0):Ax p=0/\8<=k/\k<256/\¬p.st.now.getD k.toNat 0=0:=by
 unfold daE at h
 split at h
 ·rename_i a
  split at h
  ·cases h
  rename_i d
  split at h
  ·cases h
  rename_i c;exact⟨a,by omega,by omega,λe=>c (.inl e)⟩
 rename_i a;exact absurd h a
def opE(p:Po)(q:Int):Int:=if volE p q=0/\(volV p q).frz=true then 170 else volE p q
def GA(p:Po)(k:Int):Except Int Po:=if daE p k false=0 then (match E7 p.st k with|.error e=>.error e|.ok t=>.ok ⟨t,p.gen,p.root,p.next,p.dead⟩)else .error (daE p k false)
theorem Jk(p:Po)(x:V5)(M:Mem)(h:PT5 M x p)(H:p.dead.length<=1000000)(k:Int)(held:Bool):
  SpecL prog 59 #[.agg (AO x p.gen p.root p.next).toArray,.int .i64 k,.bool held] M [] λu M' Y=>u=.int .i64 (daE p k held)/\Y=[]:=by
 refine sB func59 ntmps59 ?_;intro W
 refine ga λb3=>?_
 refine gc (JK p x M h H) ?_;rintro _ X m ⟨J,rfl,t,E,s,D⟩
 obtain⟨a1,n1,c1⟩:=J
 dsimp only at t E s
 subst t
 refine gj (λi=>?_) λi=>?_
 ·refine gr ?_
  exact⟨congrArg (Value.int .i64) (wKd i).symm,rfl⟩
 refine gc (TF p x X (h.mono m) H) ?_;rintro _ V l ⟨I,rfl,r,B,o⟩
 obtain⟨U,n2,T⟩:=I
 dsimp only at r B o
 subst r
 refine gt ?_
 refine gj (λC=>?_) λC=>?_
 ·refine gr ?_
  refine⟨congrArg (Value.int .i64) ?_,rfl⟩
  first|exact(GP (Classical.not_not.1 i) (by omega)).symm|exact(BE a (by omega) (.inl d)).symm|exact(BE a (by omega) (.inr (.inl (of_decide_eq_true c)))).symm|exact(BE a (by omega) (.inr (.inr ⟨g,f⟩))).symm|exact(B5 a (by omega) d (of_decide_eq_false c) (λh=>f h.2)).symm|exact(B5 a (by omega) d (of_decide_eq_false c) (λh=>by rw[g]at h;cases h.1)).symm
 refine gj (λz=>?_) λz=>?_
 ·refine gr ?_
  refine⟨congrArg (Value.int .i64) ?_,rfl⟩
  first|exact(GP (Classical.not_not.1 i) (by omega)).symm|exact(BE a (by omega) (.inl d)).symm|exact(BE a (by omega) (.inr (.inl (of_decide_eq_true c)))).symm|exact(BE a (by omega) (.inr (.inr ⟨g,f⟩))).symm|exact(B5 a (by omega) d (of_decide_eq_false c) (λh=>f h.2)).symm|exact(B5 a (by omega) d (of_decide_eq_false c) (λh=>by rw[g]at h;cases h.1)).symm
 refine gh ?_
 have a:Ax p=0:=Classical.not_not.1 i
 have y:=Hf a
 have R:p.st.now.length=256:=y.2.1.1
 obtain⟨O,N,G,L⟩:=h.n.sm.open (by intro e;have:=congrArg length e;rw[Af,length_nil]at this;omega)
 have P:x.n.n=p.st.now.length:=h.n.len
 have S:=(p.st.now.getD k.toNat 0).toNat_lt
 refine lq (Ca (b:=O) (off:=N) rfl rfl (by show some (Value.slice _ _ _)=_;rw[G]) rfl (by omega)) ?_
 refine lq (AE (v:=.int .u8 ((p.st.now.getD k.toNat 0).toNat:Int)) rfl rfl rfl rfl (((L _ _ (by rw[Nat.mul_one];exact Cc (xs:=p.st.now) (j:=k.toNat) (by omega))).mono (m.trans l)).cj _)) ?_
 refine lq (B7 rfl rfl rfl (by omega)) ?_
 refine gj (λd=>?_) λd=>?_
 ·refine gr ?_
  refine⟨congrArg (Value.int .i64) ?_,rfl⟩
  first|exact(GP (Classical.not_not.1 i) (by omega)).symm|exact(BE a (by omega) (.inl d)).symm|exact(BE a (by omega) (.inr (.inl (of_decide_eq_true c)))).symm|exact(BE a (by omega) (.inr (.inr ⟨g,f⟩))).symm|exact(B5 a (by omega) d (of_decide_eq_false c) (λh=>f h.2)).symm|exact(B5 a (by omega) d (of_decide_eq_false c) (λh=>by rw[g]at h;cases h.1)).symm
 refine gg ?_
 refine Br rfl rfl (CG rfl rfl rfl rfl rfl (by kernel_rfl) (YE (BH p) U T k V o (by have:=Va p;omega))) (λc=>?_) (λc=>?_)
 ·refine gr ?_
  refine⟨congrArg (Value.int .i64) ?_,rfl⟩
  first|exact(GP (Classical.not_not.1 i) (by omega)).symm|exact(BE a (by omega) (.inl d)).symm|exact(BE a (by omega) (.inr (.inl (of_decide_eq_true c)))).symm|exact(BE a (by omega) (.inr (.inr ⟨g,f⟩))).symm|exact(B5 a (by omega) d (of_decide_eq_false c) (λh=>f h.2)).symm|exact(B5 a (by omega) d (of_decide_eq_false c) (λh=>by rw[g]at h;cases h.1)).symm
 iterate 2 refine jp rfl ?_
 refine Zi rfl (λg=>?_) (λg=>?_)
 ·refine gh ?_
  have Q:=D a
  obtain⟨rb,Z,F,K⟩:=s.open (by intro e;have:=congrArg length e;rw[Ay,length_nil]at this;omega)
  subst F
  refine lq (Ca rfl rfl rfl rfl (by show (0:Int)<=k/\k<((BK p).length:Int);omega)) ?_
  refine lq (AE (v:=.int .i64 ((BK p).getD k.toNat 0)) rfl rfl rfl rfl (((K _ _ (by rw[Nat.mul_one];exact iget (xs:=BK p) (j:=k.toNat) (by omega))).mono l).cj _)) ?_
  refine gj (λf=>?_) λf=>?_
  ·refine gr ?_
   refine⟨congrArg (Value.int .i64) ?_,rfl⟩
   first|exact(GP (Classical.not_not.1 i) (by omega)).symm|exact(BE a (by omega) (.inl d)).symm|exact(BE a (by omega) (.inr (.inl (of_decide_eq_true c)))).symm|exact(BE a (by omega) (.inr (.inr ⟨g,f⟩))).symm|exact(B5 a (by omega) d (of_decide_eq_false c) (λh=>f h.2)).symm|exact(B5 a (by omega) d (of_decide_eq_false c) (λh=>by rw[g]at h;cases h.1)).symm
  refine gr ?_
  refine⟨congrArg (Value.int .i64) ?_,rfl⟩
  first|exact(GP (Classical.not_not.1 i) (by omega)).symm|exact(BE a (by omega) (.inl d)).symm|exact(BE a (by omega) (.inr (.inl (of_decide_eq_true c)))).symm|exact(BE a (by omega) (.inr (.inr ⟨g,f⟩))).symm|exact(B5 a (by omega) d (of_decide_eq_false c) (λh=>f h.2)).symm|exact(B5 a (by omega) d (of_decide_eq_false c) (λh=>by rw[g]at h;cases h.1)).symm
 refine gr ?_
 refine⟨congrArg (Value.int .i64) ?_,rfl⟩
 first|exact(GP (Classical.not_not.1 i) (by omega)).symm|exact(BE a (by omega) (.inl d)).symm|exact(BE a (by omega) (.inr (.inl (of_decide_eq_true c)))).symm|exact(BE a (by omega) (.inr (.inr ⟨g,f⟩))).symm|exact(B5 a (by omega) d (of_decide_eq_false c) (λh=>f h.2)).symm|exact(B5 a (by omega) d (of_decide_eq_false c) (λh=>by rw[g]at h;cases h.1)).symm
theorem MZ(p:Po)(x:V5)(M:Mem)(h:PT5 M x p)(d:p.dead.length<=1000000)(q:Int):
  SpecL prog 57 #[.agg (AO x p.gen p.root p.next).toArray,.int .u32 q] M [] λu M' f=>u=.tuple #[.agg (CU (volV p q)).toArray,.int .i64 (opE p q)]/\f=[]:=by
 refine sB func57 ntmps57 ?_;intro W
 refine EV λj i=>?_
 refine gc (E1 p x M h d q) ?_;rintro _ k e rfl
 refine gA λg=>?_
 refine gj (λc=>?_) λc=>?_
 ·refine gg ?_
  refine Br rfl rfl (AE rfl rfl rfl rfl (CJ.loc rfl)) (λb=>?_) (λb=>?_)
  ·refine gr ?_
   refine⟨?_,rfl⟩
   have a:opE p q=if volE p q=0/\(volV p q).frz=true then 170 else volE p q:=rfl
   first|(rw[a,if_pos ⟨by assumption,by assumption⟩];rfl)|(rw[a,if_neg (λh=>by simp_all)];rfl)
  refine gr ?_
  refine⟨?_,rfl⟩
  have a:opE p q=if volE p q=0/\(volV p q).frz=true then 170 else volE p q:=rfl
  first|(rw[a,if_pos ⟨by assumption,by assumption⟩];rfl)|(rw[a,if_neg (λh=>by simp_all)];rfl)
 refine gr ?_
 refine⟨?_,rfl⟩
 have a:opE p q=if volE p q=0/\(volV p q).frz=true then 170 else volE p q:=rfl
 first|(rw[a,if_pos ⟨by assumption,by assumption⟩];rfl)|(rw[a,if_neg (λh=>by simp_all)];rfl)
theorem Nd(p:Po)(x:V5)(M:Mem)(h:PT5 M x p)(l:p.dead.length<=1000000)(k:Int):
  SpecL prog 79 #[.agg (AO x p.gen p.root p.next).toArray,.int .i64 k] M [] λu M' r=>(∃s:Sl,u=.tuple #[s.v,.int .i64 (daE p k false)]/\(daE p k false=0->BS M' s.v (seen p.st k.toNat)))/\r=[]:=by
 refine sB func79 ntmps79 ?_;intro W
 refine ga λy=>?_
 refine gc (Jk p x M h l k false) ?_;rintro _ o e rfl
 refine gj (λa=>?_) λa=>?_
 ·refine gr ?_
  exact⟨⟨⟨none,0,0⟩,rfl,λh=>absurd h a⟩,rfl⟩
 refine gh ?_
 have d:=Classical.not_not.1 a
 obtain⟨g,j,i,_⟩:=da_ok d
 have f:=Hf g
 obtain⟨n,rfl⟩:∃n:Nat,k=(n:Int):=⟨k.toNat,by omega⟩
 refine gc (GN p.st n _ _ o (h.mono e).b (h.mono e).w f.1 (by omega)) ?_;rintro _ z m ⟨t,rfl,c⟩
 obtain⟨ds,rfl⟩:=c.sl
 refine gr ?_
 exact⟨⟨ds,by rw[d];rfl,λ_=>c⟩,rfl⟩
set_option maxRecDepth 8000
set_option maxHeartbeats 40000000
def StQ(r:Except Int Sto)(M':Mem)(a b c d:Sl)(e:Int):Prop:=(e≠0/\r=.error e)\/(e=0/\∃t,r=.ok t/\Aq t/\LS M' a.v t.blocks/\WS M' b.v t.waits/\BS M' c.v t.now/\BS M' d.v t.last)
variable{M':Mem}{r:Except Int Sto}{u:Value}
theorem StP.q(h:StP r u M'):∃(a b c d:Sl)(e:Int),u=.tuple #[.agg #[a.v,b.v,c.v,d.v],.int .i64 e]/\StQ r M' a b c d e:=by
 match r with
 |.error e=>exact⟨⟨none,0,0⟩,⟨none,0,0⟩,⟨none,0,0⟩,⟨none,0,0⟩,e,h.2,.inl ⟨h.1,rfl⟩⟩
 |.ok t=>
  obtain⟨v,e,f,g⟩:=h
  obtain⟨a,b,c,d,rfl,l,k,j,i⟩:=f.four
  exact⟨a,b,c,d,0,e,.inr ⟨rfl,t,rfl,g,l,k,j,i⟩⟩
variable{k:Int}
theorem wAg{p:Po}(h:¬daE p k false=0):GA p k=.error (daE p k false):=if_neg h
theorem wAf{p:Po}{e:Int}(h:daE p k false=0)(a:E7 p.st k=.error e):GA p k=.error e:=by unfold GA;rw[if_pos h,a]
variable{t:Sto}
theorem wHg{p:Po}(h:daE p k false=0)(a:E7 p.st k=.ok t):GA p k=.ok ⟨t,p.gen,p.root,p.next,p.dead⟩:=by unfold GA;rw[if_pos h,a]
theorem Sd(p:Po)(x:V5)(M:Mem)(h:PT5 M x p)(L:p.dead.length<=1000000)(k:Int):
  SpecL prog 62 #[.agg (AO x p.gen p.root p.next).toArray,.int .i64 k] M [] λu M' L'=>PoP (GA p k) u M'/\L'=[]:=by
 refine sB func62 ntmps62 ?_;intro W
 refine EV λY b4=>?_
 refine gc (Jk p x M h L k false) ?_;rintro _ M1 i rfl
 refine gj (λb=>?_) λb=>?_
 ·refine gr ?_
  exact⟨by rw[wAg b];exact⟨b,rfl⟩,rfl⟩
 refine gc (FE p.st k _ M1 ((h.mono i).st)) ?_;rintro _ N C r
 obtain⟨I,H,G,F,er,rfl,K⟩:=r.q
 refine gA λX=>?_
 refine gj (λf=>?_) λf=>?_
 ·refine gr ?_
  obtain⟨D,a⟩|⟨rfl,_⟩:=K
  rotate_left
  ·exact absurd rfl f
  exact⟨by rw[wAf (Classical.not_not.1 b) a];exact⟨D,rfl⟩,rfl⟩
 refine gh ?_
 obtain⟨D,_⟩|⟨rfl,t,a,O,S,R,Q,P⟩:=K
 ·exact absurd (Classical.not_not.1 f) D
 refine Hr [5,7] [5,6,7] [0,1,2,4,103,105,6,107] N ([(X,.cells #[I.v,H.v,G.v,F.v] 32 (0,0)),(Y,cE (AO x p.gen p.root p.next) 36)]) ([]) ?_
 refine gh ?_
 obtain⟨o,n,E,J,g⟩:=h.d
 refine dh rfl (Bu rfl rfl rfl rfl rfl (by kernel_rfl) (by rw[E];exact De o _ n (Al p.dead) N (g.mono (i.trans C)) (Ay _) (DB _) L)) ?_;rintro _ M4 _ ⟨c,R4,rfl,e⟩
 refine⟨c,by simp,?_⟩
 obtain⟨l,j,rfl⟩:=e.form
 refine Ed rfl rfl (Ae rfl rfl rfl rfl rfl rfl rfl rfl) ?_;rintro _ _ _ ⟨rfl,rfl⟩
 refine⟨c,by simp,?_⟩
 refine Hq rfl rfl rfl (Ak rfl rfl rfl rfl rfl) ?_
 refine G1 rfl rfl (Ae rfl rfl rfl rfl rfl rfl rfl rfl) ?_;rintro _ _ _ ⟨rfl,rfl⟩
 refine⟨c,by simp,?_⟩
 refine Ld ?_
 refine wJm (jT (Ao ?_))
 refine JF e (by simp) ?_
 intro Z V U B T z y;cases T
 have m:=c.trans B
 have s:PT5 Z ⟨I,H,G,F,⟨l,p.dead.length,j⟩⟩ ⟨t,p.gen,p.root,p.next,p.dead⟩:=⟨S.mono m,R.mono m,Q.mono m,P.mono m,⟨l,j,rfl,z,y⟩⟩
 refine gr ?_
 exact⟨by rw[wHg (Classical.not_not.1 b) a];exact⟨_,rfl,s⟩,rfl⟩
def vrnE(p:Po)(q:Int):Int:=if volE p q=0 then (fchk p.st (volV p q).root).2 else volE p q
def Dk(p:Po)(q:Int)(a b:Ky):List It:=if vrnE p q=0 then rng p.st (volV p q).root a b else []
theorem Se(p:Po)(x:V5)(M:Mem)(h:PT5 M x p)(o:p.dead.length<=1000000)(q:Int)(a b:Ky):
  SpecL prog 141 #[.agg (AO x p.gen p.root p.next).toArray,.int .u32 q,.agg (AG a).toArray,.agg (AG b).toArray] M [] λu M' z=>(∃s:Sl,u=.tuple #[s.v,.int .i64 (vrnE p q)]/\NS M' s.v (Dk p q a b))/\z=[]:=by
 refine sB func141 ntmps141 ?_;intro W
 refine Rl λE D C=>?_
 refine gc (E1 p x M h o q) ?_;rintro _ y f rfl
 refine gA λt=>?_
 refine gj (λc=>?_) λc=>?_
 ·refine gr ?_
  have e:vrnE p q=volE p q:=if_neg c
  exact⟨⟨⟨none,0,0⟩,by rw[e];rfl,by unfold Dk;rw[e,if_neg c];exact⟨none,0,[],rfl,Nat.le_refl _,SM.nil,rfl,λ_ h=>by cases h⟩⟩,rfl⟩
 refine gc (UW p.st _ (volV p q).root a b y ((h.mono f).st)) ?_;rintro _ F r ⟨B,rfl,d⟩
 obtain⟨j,i,g,rfl,m,k,l,n⟩:=id d
 refine gr ?_
 have e:vrnE p q=(fchk p.st (volV p q).root).2:=if_pos (Classical.not_not.1 c)
 exact⟨⟨⟨j,_,i⟩,by rw[e];rfl,by unfold Dk;rw[e];exact d⟩,rfl⟩
def H6(p:Po)(q:Int)(k:Ky):Option It:=if vrnE p q=0 then fnd p.st (volV p q).root k else none
def VfP(p:Po)(q:Int)(k:Ky)(u:Value)(M':Mem):Prop:=∃(y:It)(s:Sl)(code:Int),u=.tuple #[.agg #[.int .u8 y.key.kind,.int .u32 y.key.id,.int .u32 y.key.off,.int .i64 y.ref,s.v],.int .i64 code]/\BS M' s.v y.val/\((code=0/\H6 p q k=some y)\/(code≠0/\H6 p q k=none))
variable{root:Int}{s:Sto}
theorem wKa{q:Ky}(h:FdPost s root q u M'):∃(y:It)(c:Sl)(a:Int),u=.tuple #[.agg #[.int .u8 y.key.kind,.int .u32 y.key.id,.int .u32 y.key.off,.int .i64 y.ref,c.v],.int .i64 a]/\BS M' c.v y.val/\(((fchk s root).2=0/\a=0/\fnd s root q=some y)\/(a≠0/\((fchk s root).2=0->fnd s root q=none))):=by
 by_cases b:(fchk s root).2=0
 ·obtain ⟨y,c,a,i,g,j⟩:=wDk h
  obtain⟨sl,rfl⟩:=g.sl
  rcases j b with⟨f,d⟩|⟨f,d,_⟩
  ·exact ⟨y,sl,a,i,g,.inl ⟨b,d,f⟩⟩
  exact⟨y,sl,a,i,g,.inr ⟨by rw[d];decide,λ_=>f⟩⟩
 unfold FdPost at h
 rw[if_neg b]at h
 exact⟨PP,⟨none,0,0⟩,_,h,BS.nil,.inr ⟨b,λe=>absurd e b⟩⟩
theorem Ul(p:Po)(x:V5)(M:Mem)(h:PT5 M x p)(n:p.dead.length<=1000000)(q:Int)(k:Ky):
  SpecL prog 28 #[.agg (AO x p.gen p.root p.next).toArray,.int .u32 q,.agg (AG k).toArray] M [] λu M' t=>VfP p q k u M'/\t=[]:=by
 refine sB func28 ntmps28 ?_;intro W
 refine Rl λD C B=>?_
 refine gc (E1 p x M h n q) ?_;rintro _ s g rfl
 refine gA λz=>?_
 refine gj (λa=>?_) λa=>?_
 ·refine gr ?_
  have d:vrnE p q=volE p q:=if_neg a
  exact⟨⟨PP,⟨none,0,0⟩,_,rfl,BS.nil,.inr ⟨a,by unfold H6;rw[d,if_neg a]⟩⟩,rfl⟩
 refine gc (Qv p.st _ (volV p q).root k s ((h.mono g).st)) ?_;rintro _ E o f
 obtain⟨y,m,c,rfl,e,b⟩:=wKa f
 refine gr ?_
 have d:vrnE p q=(fchk p.st (volV p q).root).2:=if_pos (Classical.not_not.1 a)
 refine⟨⟨y,m,c,rfl,e,?_⟩,rfl⟩
 rcases b with⟨j,i,r⟩|⟨j,i⟩
 ·exact .inl ⟨i,by unfold H6;rw[d,if_pos j];exact r⟩
 refine .inr ⟨j,?_⟩
 unfold H6
 split
 ·rename_i l;rw[d]at l;exact i l
 rfl
set_option maxRecDepth 8000
set_option maxHeartbeats 40000000
abbrev wPc:TypeId:=32
def JM(s:Sto)(i:Nat):Bool:=decide (8<=i)&&decide (Uh .u8 ((s.now.getD i 0).toNat:Int) ((s.last.getD i 0).toNat:Int)=0)
def frN(s:Sto)(n:Nat):List Nat:=(List.range n).filter (JM s)
theorem Pp(s:Sto)(n:Nat):frN s (n+1)=frN s n++(if JM s n then [n]else []):=by
 unfold frN;rw[List.range_succ,List.filter_append];cases h:JM s n<;>simp[h]
variable{n:Nat}{s:Sto}
theorem Xe(h:JM s n=true):frN s (n+1)=frN s n++[n]:=by rw[Pp,if_pos h]
theorem wNi(h:¬JM s n=true):frN s (n+1)=frN s n:=by rw[Pp,if_neg h,append_nil]
theorem Rp(s:Sto)(n:Nat):∀k,frN s n<+:frN s (n+k)
 |0=>List.prefix_rfl
 |k+1=>(Rp s n k).trans (by rw[<-Nat.add_assoc,Pp];exact List.prefix_append _ _)
theorem frN_8(s:Sto):frN s 8=[]:=by
 unfold frN;rw[List.filter_eq_nil_iff]
 intro x a;rw[List.mem_range]at a
 unfold JM;rw[decide_eq_false (by omega)];simp
theorem wJy(s:Sto)(n:Nat):(frN s n).length<=n:=by
 unfold frN;exact Nat.le_trans (List.length_filter_le _ _) (by rw[List.length_range];exact Nat.le_refl _)
theorem free_spec(d a nv c:Value)(M:Mem):
  SpecL prog 153 #[.agg #[d,a,nv,c]] M [] λu M' h=>∃b,u=.func (.func 203) #[] #[pB b]/\M' b=some (cE [d,a,nv,c] wPc)/\h=[]:=by
 refine sB func153 ntmps153 ?_;intro W
 refine ga λe=>?_
 refine AP e (by simp) ?_
 intro i f g
 refine gr ?_
 exact⟨e,rfl,g,rfl⟩
theorem YP(s:Sto)(I u nv z:Value)(M:Mem)(h1:LS M I s.blocks)(h2:WS M u s.waits)(h3:BS M nv s.now)(h4:BS M z s.last)(n:Aq s)(b:Nat)(Y:M b=some (cE [I,u,nv,z] wPc))(l:Nat)(J Q:List Nat->Mem->Lc->Prop)(g:Mem)(K:Lc)(G:MLe M g)(Z:∀pre y M2 L2,MLe g M2->J pre M2 L2->pre++[y]<+:frN s 256->DD prog l ((λy:Nat=>[Value.int .i64 (y:Int)]) y).toArray M2 L2 λv M' L'=>(v=.bool true/\J (pre++[y]) M' L')\/(v=.bool false/\Q (pre++[y]) M' L'))(h0:J [] g K):
  SpecL prog 203 #[.func (.yield l) #[] #[],pB b] g K λ_ M' L'=>J (frN s 256) M' L'\/∃pre,pre<+:frN s 256/\Q pre M' L':=by
 have r:∀{M2:Mem}(L:Lc)(i:Nat)(v:Value),MLe g M2->[I,u,nv,z][i]? =some v->CJ M2 L b i v:=λL i v h R=>(CM.cj ⟨_,_,_,h _ _ (G _ _ Y),by simpa using R⟩ L)
 have S:s.now.length=256:=n.2.1.1
 have U:s.last.length=256:=n.2.2.1
 obtain⟨na,nc,rfl,T,D⟩:=id h3
 obtain⟨nb,no,H,C⟩:=D.open (by intro e;have:=congrArg length e;rw[Af,length_nil]at this;omega)
 subst H
 obtain⟨la,lc,rfl,V,F⟩:=id h4
 obtain⟨lb,lo,H,E⟩:=F.open (by intro e;have:=congrArg length e;rw[Af,length_nil]at this;omega)
 subst H
 refine sB func203 ntmps203 ?_;intro W
 refine gh ?_
 refine Cz (α:=Nat×Mem×Lc) (λx=>[(0,.func (.yield l) #[] #[]),(1,pB b),(3,.int .i64 (x.1:Int))]) (λx=>x.2.1) (λx=>x.2.2) (λx=>8<=x.1/\x.1<=256/\MLe g x.2.1/\J (frN s x.1) x.2.1 x.2.2) (λx=>256-x.1) (8,g,K) ⟨Nat.le_refl _,by show 8<=256;omega,MLe.refl _,by show J (frN s 8) _ _;rw[frN_8];exact h0⟩ ?_
 rintro⟨k,O,P⟩ ⟨o,X,a,d⟩
 try dsimp only at o X a d⊢
 refine gj (λh5=>?_) λh5=>?_
 ·refine gh ?_
  refine LL [0,1,2,3,4,5,6,7,8,9,10,11,12,13,14,115,16,17] [] ?_
  refine gh ?_
  refine dq rfl (AE rfl rfl rfl rfl (r _ 2 _ a rfl)) ?_
  refine gh ?_
  refine dq rfl (AE rfl rfl rfl rfl (((C _ _ (by rw[Nat.mul_one];exact Cc (j:=k) (by omega))).mono (G.trans a)).cj _)) ?_
  refine gh ?_
  refine dq rfl (AE rfl rfl rfl rfl (r _ 3 _ a rfl)) ?_
  refine gh ?_
  refine dq rfl (AE rfl rfl rfl rfl (((E _ _ (by rw[Nat.mul_one];exact Cc (j:=k) (by omega))).mono (G.trans a)).cj _)) ?_
  refine dq rfl (F5 rfl rfl rfl rfl rfl) ?_
  refine gj (λf=>?_) λf=>?_
  ·refine gh ?_
   have c:JM s k=true:=by
    unfold JM;rw[decide_eq_true o,decide_eq_true f];rfl
   refine dh rfl (Hu rfl rfl rfl rfl (Z (frN s k) k O P a d (by rw[<-Xe c];have B:=Rp s (k+1) (256-(k+1));rwa[show k+1+(256-(k+1))=256 by omega]at B))) ?_;rintro _ M' _ ⟨t,N,rfl,m⟩
   refine⟨t,by simp,?_⟩
   rw[<-Xe c]at m
   rcases m with⟨rfl,m⟩|⟨rfl,m⟩
   ·refine gh ?_
    refine Bw (k+1,M',N) ⟨by show 8<=k+1;omega,by show k+1<=256;omega,a.trans t,m⟩
   refine gh ?_
   refine AD (L':=N) (by simp) ?_
   refine JV (rs:=[]) rfl .nil ?_
   exact .inr ⟨_,(by have B:=Rp s (k+1) (256-(k+1));rwa[show k+1+(256-(k+1))=256 by omega]at B),m⟩
  refine gh ?_
  refine dk rfl rfl rfl rfl ?_
  refine gh ?_
  have c:¬JM s k=true:=by
   unfold JM;rw[decide_eq_false f];simp
  refine Bw (k+1,O,P) ⟨by show 8<=k+1;omega,by show k+1<=256;omega,a,by show J (frN s (k+1)) _ _;rw[wNi c];exact d⟩
 refine gh ?_
 refine Ug ?_
 refine JV (rs:=[]) rfl .nil ?_
 obtain rfl:k=256:=by omega
 exact .inl d
theorem Qq(s:Sto)(e a nv c:Value)(M:Mem)(m:LS M e s.blocks)(k:WS M a s.waits)(j:BS M nv s.now)(i:BS M c s.last)(d:Aq s)(b:Nat)(f:M b=some (cE [e,a,nv,c] wPc)):Iter prog 203 [pB b] M (λy:Nat=>[Value.int .i64 (y:Int)]) (frN s 256):=
 λl J t o r g h n=>YP s e a nv c M m k j i d b f l J t o r g h n
def wNe(xs:List Nat):List Value:=xs.map λy:Nat=>.int .i64 (y:Int)
abbrev TIS:TypeId:=34
def AI(b2:Nat)(pre:List Nat)(R:Lc):Prop:=∃v Rs,R=(b2,cE [v] TIS)::Rs/\Own v Rs 3 1 pre.length (wNe pre)
theorem Wf(lb:List Value)(xs:List Nat)(M:Mem)(e:Iter prog 203 lb M (λy:Nat=>[Value.int .i64 (y:Int)]) xs)(E:xs.length<=100000):
  SpecL prog 202 #[.slice none 0 0,.func (.func 203) #[] lb.toArray] M [] λv _ L'=>Own v L' 3 1 xs.length (wNe xs):=by
 refine sB func202 ntmps202 ?_;intro W
 refine gh ?_
 refine lh (Bf rfl rfl rfl rfl) ?_;rintro _ _ _ ⟨j,rfl,rfl,rfl⟩
 refine gh ?_
 refine D1 (R:=[(j,cE [.slice none 0 0] TIS)]) (xs:=xs) (enc:=(λy:Nat=>[Value.int .i64 (y:Int)])) (ps:=[7]) rfl (by kernel_rfl) e
  (λpre _ R=>AI j pre R)
  (λ_ _ _ _=>False)
  (λ_=>rfl) (by decide) ⟨_,[],rfl,Own.nil _ _⟩ ?_ ?_ ?_
 ·intro l F pre y C B f g c
  obtain⟨v,k,rfl,a⟩:=g
  obtain⟨r,o,rfl⟩:=a.form
  refine gh ?_
  refine jK λG=>?_
  refine gh ?_
  refine lh (Aa (cs:=[_]) rfl rfl rfl (by rfl) (by rfl) (by rfl)) ?_;rintro _ _ _ ⟨u,rfl,rfl,rfl⟩
  refine lh (Ba (R:=k) (m:=1) rfl rfl rfl rfl a rfl (λi v s=>CJ.loc (by simpa using s)) rfl (by rfl) (by simp[Value.oneCell']) (by have:=c.length_le;rw[List.length_append,List.length_singleton]at this;omega) (by omega)) ?_;rintro D _ _ ⟨rfl,n,rfl,b,_⟩
  obtain⟨z,t,rfl⟩:=b.form
  refine gh ?_
  refine AK (L':=(j,cE [.slice z (pre.length+1) t] TIS)::n) (λw h=>(h.perm List.perm_append_comm).fewer (.cons _ (.refl _))) ?_
  refine Zj ?_
  refine⟨_,n,rfl,?_⟩
  rw[List.length_append];show Own _ _ _ _ _ (wNe (pre++[y]));rw[show wNe (pre++[y])=wNe pre++[.int .i64 (y:Int)]by simp[wNe]];exact b
 ·intro d C B f g
  obtain⟨v,k,rfl,a⟩:=g
  obtain⟨r,o,rfl⟩:=a.form
  simp only[List.cons_append,nil_append]
  refine gh ?_
  refine Bi (L2:=_) Rm.perm ?_
  refine AD (L':=k) (by simp) ?_
  refine Gd rfl rfl ?_
  exact a
 intro _ _ _ _ _ _ _ h;exact h.elim
theorem RE(lb:List Value)(xs:List Nat)(M:Mem)(b:Iter prog 203 lb M (λy:Nat=>[Value.int .i64 (y:Int)]) xs)(c:xs.length<=100000):
  SpecL prog 152 #[.func (.func 203) #[] lb.toArray] M [] λv _ L'=>Own v L' 3 1 xs.length (wNe xs):=by
 refine sB func152 ntmps152 ?_;intro W
 refine gC (Wf lb xs M b c) ?_;rintro _ f e d a
 refine gh ?_
 refine AD (L':=e) (by simp) ?_
 refine Gd rfl rfl ?_
 exact a
theorem NA(s:Sto)(h f nv g:Value)(M:Mem)(n:LS M h s.blocks)(m:WS M f s.waits)(l:BS M nv s.now)(k:BS M g s.last)(d:Aq s):
  SpecL prog 89 #[.agg #[h,f,nv,g]] M [] λu M' y=>(∃a c,u=.tuple #[.slice a (frN s 256).length c,.int .i64 0])/\y=[]:=by
 have j:Dp s=0:=if_pos d
 refine sB func89 ntmps89 ?_;intro W
 refine ga λC=>?_
 refine gQ (CD s _ M ⟨_,_,_,_,rfl,n,m,l,k⟩) ?_
 refine jf rfl (decide_eq_false (by first|omega|(rw[j];decide))) ?_
 refine gC (free_spec h f nv g M) ?_;rintro _ r _ b ⟨o,rfl,i,rfl⟩
 simp only[nil_append]
 refine gC (RE [pB o] (frN s 256) r (Qq s h f nv g r (n.mono b) (m.mono b) (l.mono b) (k.mono b) d o i) (by have:=wJy s 256;omega)) ?_;rintro _ E D t e
 obtain⟨B,z,rfl⟩:=e.form
 refine gr ?_
 exact⟨⟨_,_,rfl⟩,rfl⟩
end Go.Proofs.YtdahhoicackcaaaGreat
