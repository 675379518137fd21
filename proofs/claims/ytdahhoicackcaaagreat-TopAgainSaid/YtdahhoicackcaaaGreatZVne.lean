/- THE WALKING LAYER, one part more: a struct of numbers and truths is not unlike itself. No statement of the seat is proved here. -/
import Derived.Test.YtdahhoicackcaaaGreatZHn
import Derived.Test.YtdahhoicackcaaaGreatZFc
import Derived.Test.YtdahhoicackcaaaGreatZFg
import Derived.Test.YtdahhoicackcaaaGreatZShv
import Derived.ProofKit
import Derived.Carry
import Derived.Test.YtdahhoicackcaaaGreatZSp
import Derived.Lib.SmallJoins
import Derived.Test.YtdahhoicackcaaaGreatZTry
namespace Go.Proofs.YtdahhoicackcaaaGreat
open Go.Proofs.Tryz
open List (length_nil length_map length replicate)
set_option linter.unusedVariables false
set_option linter.unusedSectionVars false
set_option maxRecDepth 8000
set_option maxHeartbeats 40000000
set_option linter.unusedSimpArgs false
open Go.RowKit
abbrev wGa(t:Tp)(s:Sl):List Value:=[.int .u8 t.kind,.int .u32 t.vol,.int .u32 t.frm,.int .u8 t.key.kind,.int .u32 t.key.id,.int .u32 t.key.off,s.v,.bool t.on]
def wPh(q:Po)(u:Value)(M':Mem):Prop:=∃y,u=.agg (AO y q.gen q.root q.next).toArray/\PT5 M' y q
def DoQ(p q:Po)(M':Mem)(y:V5)(g r1 n e:Int):Prop:=(e≠0/\q=p)\/(e=0/\PT5 M' y q/\g=q.gen/\r1=q.root/\n=q.next)
variable{M':Mem}{g r1:Int}{r:Except Int Po}{y:V5}
theorem PoQ.doq{p q:Po}{n e:Int}(h:PoQ r M' y g r1 n e)(a:q=Fj p r):DoQ p q M' y g r1 n e:=by
 rcases h with⟨d,rfl⟩|⟨rfl,b,rfl,c,rfl,rfl,rfl⟩
 ·exact .inl ⟨d,a⟩
 have e:q=b:=a
 subst e;exact .inr ⟨rfl,c,rfl,rfl,rfl⟩
def PiQ(r:Except Int (Po×Int))(M':Mem)(y:V5)(g r1 n i e:Int):Prop:=(e≠0/\r=.error e)\/(e=0/\∃q,r=.ok (q,i)/\PT5 M' y q/\g=q.gen/\r1=q.root/\n=q.next)
variable{u:Value}
theorem PoP2.q{k:IntKind}{r:Except Int (Po×Int)}(h:PoP2 k r u M'):∃(y:V5)(g r1 n i e:Int),u=.tuple #[.agg (AO y g r1 n).toArray,.int k i,.int .i64 e]/\PiQ r M' y g r1 n i e:=by
 cases r with
 |error e=>obtain⟨a,rfl⟩:=h;exact⟨Ef,0,0,0,0,e,rfl,.inl ⟨a,rfl⟩⟩
 |ok x=>obtain⟨q,i⟩:=x;obtain⟨y,rfl,hp⟩:=h;exact⟨y,q.gen,q.root,q.next,i,0,rfl,.inr ⟨rfl,q,rfl,hp,rfl,rfl,rfl⟩⟩
variable{j:Int}
theorem PiQ.po{n i e:Int}(h:PiQ (Ex r j) M' y g r1 n i e):PoQ r M' y g r1 n e:=by
 rcases h with⟨c,a⟩|⟨rfl,q,a,b,rfl,rfl,rfl⟩
 ·cases r with
  |error e=>cases a;exact .inl ⟨c,rfl⟩
  |ok q=>cases a
 cases r with
 |error e=>cases a
 |ok d=>cases a;exact .inr ⟨rfl,_,rfl,b,rfl,rfl,rfl⟩
theorem PoQ.pi{n e:Int}(h:PoQ r M' y g r1 n e):PiQ (Ex r j) M' y g r1 n j e:=by
 rcases h with⟨b,rfl⟩|⟨rfl,q,rfl,a,rfl,rfl,rfl⟩
 ·exact .inl ⟨b,rfl⟩
 exact .inr ⟨rfl,q,rfl,a,rfl,rfl,rfl⟩
variable{d:List By}{k:Int}
theorem wBo{p q:Po}(h:Ho p d=.ok (q,k)):q.dead=p.dead:=by obtain⟨t,_,rfl,_⟩:=wBn h;rfl
theorem wAe{p q:Po}(h:GA p k=.ok q):q.dead=p.dead:=by obtain⟨_,t,_,rfl⟩:=wAd h;rfl
theorem Qe(p:Po)(x:V5)(M:Mem)(h:PT5 M x p)(I:p.dead.length<=1000000)(t:Tp)(s:Sl)(hs:BS M s.v t.val)(L:TpOk t)(a:Int):
  SpecL prog 27 #[.agg (AO x p.gen p.root p.next).toArray,.agg (wGa t s).toArray,.int .i64 a] M [] λu M' U=>wPh (layA p t a) u M'/\U=[]:=by
 refine sB func27 ntmps27 ?_;intro W
 refine Ao (Ah ?_)
 refine lh (Bf (cs:=[_,_,_,_,_,_,_,_]) rfl rfl rfl rfl) ?_;rintro _ _ _ ⟨Q,rfl,rfl,rfl⟩
 refine lh (Bf (cs:=[_,_,_,_,_,_,_,_]) rfl rfl rfl rfl) ?_;rintro _ _ _ ⟨P,rfl,rfl,rfl⟩
 refine lh (AM rfl rfl) ?_;rintro _ _ _ ⟨O,rfl,rfl,rfl⟩
 refine Am (jT (Ao (Ah ?_)))
 refine lq (Gz rfl rfl rfl rfl rfl) ?_
 refine lh (AM rfl rfl) ?_;rintro _ _ _ ⟨N,rfl,rfl,rfl⟩
 refine Dz rfl (Ae rfl rfl rfl rfl rfl rfl rfl rfl) ?_;rintro _ _ _ ⟨rfl,rfl⟩
 refine jp rfl ?_
 refine Am (jT ?_)
 refine Du (α:=V5×Int×Int×Int×Int×Int×Mem) (λz=>[(2,.int .i64 z.2.2.2.2.1),(3,pB Q),(4,pB P),(6,pB O),(7,pB N),(8,.int .i64 z.2.2.2.2.2.1)]) (λz=>z.2.2.2.2.2.2) (λz=>[(N,cE (AO z.1 z.2.1 z.2.2.1 z.2.2.2.1) 36),(O,cE (AO Ef 0 0 0) 36),(P,cE (wGa t s) 45),(Q,cE (AO x p.gen p.root p.next) 36)]) (λz=>MLe M z.2.2.2.2.2.2/\PiQ (if 0<a then Ex (GA p a) a else Ho p t.val) z.2.2.2.2.2.2 z.1 z.2.1 z.2.2.1 z.2.2.2.1 z.2.2.2.2.1 z.2.2.2.2.2.1) ?_ ?_
 ·rintro ⟨R,gz,V,nz,E,ez,T⟩ ⟨k,f⟩
  try dsimp only at k f⊢
  refine gj (λo=>?_) λo=>?_
  ·refine gr ?_
   obtain⟨C,c⟩|⟨rfl,_⟩:=f
   rotate_left
   ·exact absurd rfl o
   refine⟨?_,rfl⟩
   show wPh (layS p t (if 0<a then Ex (GA p a) a else Ho p t.val)) _ _;rw[c];exact⟨x,rfl,h.mono k⟩
  refine gh ?_
  obtain⟨C,_⟩|⟨rfl,D,c,G,rfl,rfl,rfl⟩:=f
  ·exact absurd (Classical.not_not.1 o) C
  have H:D.dead=p.dead:=by
   split at c
   ·cases j:GA p a with
    |error e=>rw[j]at c;cases c
    |ok Z=>rw[j]at c;cases c;exact wAe j
   exact wBo c
  refine gc (PU D R T G (by rw[H];exact I) t.vol L.vol ⟨t.key,E,[]⟩ _ BS.nil L.key) ?_;rintro _ M3 J b
  obtain⟨S,g3,X,n3,e3,rfl,B⟩:=b.q
  refine gA λb9=>?_
  refine gj (λm=>?_) λm=>?_
  ·refine gr ?_
   obtain⟨C,d⟩|⟨rfl,_⟩:=B
   rotate_left
   ·exact absurd rfl m
   refine⟨?_,rfl⟩
   show wPh (layS p t (if 0<a then Ex (GA p a) a else Ho p t.val)) _ _;rw[c];show wPh (Fj p (E4 D t.vol ⟨t.key,E,[]⟩)) _ _;rw[d];exact⟨x,rfl,h.mono (k.trans J)⟩
  refine gr ?_
  obtain⟨C,_⟩|⟨rfl,Y,d,F,rfl,rfl,rfl⟩:=B
  ·exact absurd (Classical.not_not.1 m) C
  refine⟨?_,rfl⟩
  show wPh (layS p t (if 0<a then Ex (GA p a) a else Ho p t.val)) _ _;rw[c];show wPh (Fj p (E4 D t.vol ⟨t.key,E,[]⟩)) _ _;rw[d];exact⟨S,rfl,F⟩
 refine gj (λr=>?_) λr=>?_
 ·refine gc (Sd p x M h I a) ?_;rintro _ K l b
  obtain⟨y,g,r1,n,e,rfl,f⟩:=b.q
  refine gh ?_
  exact AS (y,g,r1,n,a,e,K) (Keep.cons (t:=2) rfl (Keep.cons (t:=3) rfl (Keep.cons (t:=4) rfl (Keep.cons (t:=6) rfl (Keep.cons (t:=7) rfl (Keep.cons (t:=8) rfl Keep.nil)))))) ⟨l,by rw[if_pos r];exact f.pi⟩ (λw h=>h)
 refine gc (wBm p x M h I t.val s.v hs) ?_;rintro _ K l b
 obtain⟨y,g,r1,n,i,e,rfl,f⟩:=b.q
 refine gh ?_
 exact AS (y,g,r1,n,i,e,K) (Keep.cons (t:=2) rfl (Keep.cons (t:=3) rfl (Keep.cons (t:=4) rfl (Keep.cons (t:=6) rfl (Keep.cons (t:=7) rfl (Keep.cons (t:=8) rfl Keep.nil)))))) ⟨l,by rw[if_neg r];exact f⟩ (λw h=>h)
variable{t:Tp}
theorem wNn{p:Po}(h:¬t.kind=10):HA p t=Eb p t:=if_neg h
theorem wEj{p:Po}(h:t.kind=4)(a:∀x,H6 p t.frm t.key=some x->¬0<x.ref):HA p t=p:=by
 unfold HA Eb
 rw[h]
 show wNu p t (H6 p t.frm t.key)=p
 cases b:H6 p t.frm t.key with
 |none=>rfl
 |some x=>show (if 0<x.ref then _ else p)=p;rw[if_neg (a x b)]
theorem wKj{p:Po}{x:It}(h:t.kind=4)(b:H6 p t.frm t.key=some x)(a:0<x.ref):HA p t=layA p t x.ref:=by
 unfold HA Eb
 rw[h]
 show wNu p t (H6 p t.frm t.key)=_
 rw[b]
 exact if_pos a
theorem ComP.q{p:Po}(h:ComP p u M'):∃(y:V5)(g r1 n e:Int),u=.tuple #[.agg (AO y g r1 n).toArray,.int .i64 e]/\PoQ (wEc p) M' y g r1 n e:=by
 obtain⟨x,g,r,n,e,d,c⟩:=h.form
 refine⟨x,g,r,n,e,d,?_⟩
 unfold wEc
 rcases c with⟨rfl,a,b,rfl,rfl,rfl⟩|⟨rfl,a,_⟩
 ·rw [if_pos a];exact .inr ⟨rfl,_,rfl,b,rfl,rfl,rfl⟩
 rw[if_neg a];exact .inl ⟨a,rfl⟩
theorem MU(p:Po)(x:V5)(M:Mem)(h:PT5 M x p)(o:p.dead.length<=1000000)(T:PoN p)(t:Tp)(s:Sl)(hs:BS M s.v t.val)(N:TpOk t):
  SpecL prog 9 #[.agg (AO x p.gen p.root p.next).toArray,.agg (wGa t s).toArray] M [] λu M' L'=>wPh (HA p t) u M'/\L'=[]:=by
 refine sB func9 ntmps9 ?_;intro W
 refine Ao (Ah ?_)
 refine lh (Bf (cs:=[_,_,_,_,_,_,_,_]) rfl rfl rfl rfl) ?_;rintro _ _ _ ⟨Y,rfl,rfl,rfl⟩
 refine lh (Bf (cs:=[_,_,_,_,_,_,_,_]) rfl rfl rfl rfl) ?_;rintro _ _ _ ⟨b3,rfl,rfl,rfl⟩
 refine lh (AM rfl rfl) ?_;rintro _ _ _ ⟨X,rfl,rfl,rfl⟩
 refine Am (jT (Ao (Ah ?_)))
 refine lq (Gz rfl rfl rfl rfl rfl) ?_
 refine lh (AM rfl rfl) ?_;rintro _ _ _ ⟨V,rfl,rfl,rfl⟩
 refine Dz rfl (Ae rfl rfl rfl rfl rfl rfl rfl rfl) ?_;rintro _ _ _ ⟨rfl,rfl⟩
 refine jp rfl ?_
 refine Am (jT ?_)
 refine Du (α:=V5×Int×Int×Int×Int×Mem) (λz=>[(2,pB Y),(4,pB X),(5,pB V),(6,.int .i64 z.2.2.2.2.1)]) (λz=>z.2.2.2.2.2) (λz=>[(V,cE (AO z.1 z.2.1 z.2.2.1 z.2.2.2.1) 36),(X,cE (AO Ef 0 0 0) 36),(b3,cE (wGa t s) 45),(Y,cE (AO x p.gen p.root p.next) 36)]) (λz=>MLe M z.2.2.2.2.2/\DoQ p (HA p t) z.2.2.2.2.2 z.1 z.2.1 z.2.2.1 z.2.2.2.1 z.2.2.2.2.1) ?_ ?_
 ·rintro ⟨Z,gz,rz,nz,ez,Mz⟩ ⟨Q,d⟩
  try dsimp only at Q d⊢
  refine gj (λk=>?_) λk=>?_
  ·refine gr ?_
   obtain⟨B,hr⟩|⟨rfl,_⟩:=d
   rotate_left
   ·exact absurd rfl k
   exact⟨by rw[hr];exact⟨x,rfl,h.mono Q⟩,rfl⟩
  refine gr ?_
  obtain⟨B,_⟩|⟨rfl,S,rfl,rfl,rfl⟩:=d
  ·exact absurd (Classical.not_not.1 k) B
  exact⟨⟨Z,rfl,S⟩,rfl⟩
 refine gj (λL=>?_) λL=>?_
 ·refine gc (LW p x M h o T.next) ?_;rintro _ c a b
  obtain⟨y,g,r1,n,i,e,rfl,D⟩:=b.q
  have d:=D.po
  refine gh ?_
  exact AS (y,g,r1,n,e,c) (Keep.cons (t:=2) rfl (Keep.cons (t:=4) rfl (Keep.cons (t:=5) rfl (Keep.cons (t:=6) rfl Keep.nil)))) ⟨a,d.doq (by simp[HA,Eb,L])⟩ (λw h=>h)
 refine gj (λK=>?_) λK=>?_
 ·refine gc (PU p x M h o t.vol N.vol ⟨t.key,0,t.val⟩ s.v hs N.key) ?_;rintro _ c a b
  obtain⟨y,g,r1,n,e,rfl,d⟩:=b.q
  refine gh ?_
  exact AS (y,g,r1,n,e,c) (Keep.cons (t:=2) rfl (Keep.cons (t:=4) rfl (Keep.cons (t:=5) rfl (Keep.cons (t:=6) rfl Keep.nil)))) ⟨a,d.doq (by simp[HA,Eb,K])⟩ (λw h=>h)
 refine gj (λJ=>?_) λJ=>?_
 ·refine gc (Qe p x M h o t s hs N 0) ?_;rintro _ c a ⟨y,rfl,f⟩
  refine gr ?_
  rw[<-show HA p t=layA p t 0 by simp[HA,Eb,J]]at f⊢
  exact⟨⟨y,rfl,f⟩,rfl⟩
 refine gj (λj=>?_) λj=>?_
 ·refine gc (Ul p x M h o t.frm t.key) ?_;rintro _ c a R
  obtain⟨yi,ys,U,rfl,aa,C⟩:=R
  refine gA λb7=>?_
  refine gj (λr=>?_) λr=>?_
  ·refine gj (λI=>?_) λI=>?_
   ·refine gc (Qe p x c (h.mono a) o t s (hs.mono a) N yi.ref) ?_;rintro _ M2 ab ⟨y,rfl,f⟩
    refine gr ?_
    obtain⟨_,P⟩|⟨B,_⟩:=C
    rotate_left
    ·exact absurd r B
    rw[<-wKj j P I]at f⊢
    exact⟨⟨y,rfl,f⟩,rfl⟩
   refine gh ?_
   exact AS (x,p.gen,p.root,p.next,2,c) (Keep.cons (t:=2) rfl (Keep.cons (t:=4) rfl (Keep.cons (t:=5) rfl (Keep.cons (t:=6) rfl Keep.nil)))) ⟨a,.inl ⟨by show (2:Int)≠0;decide,wEj j λz O=>(by obtain⟨_,P⟩|⟨B,_⟩:=C;(rw[P]at O;cases O;exact I);(exact absurd r B))⟩⟩ (λw h=>h.fewer (List.sublist_cons_self _ _))
  refine gh ?_
  exact AS (x,p.gen,p.root,p.next,2,c) (Keep.cons (t:=2) rfl (Keep.cons (t:=4) rfl (Keep.cons (t:=5) rfl (Keep.cons (t:=6) rfl Keep.nil)))) ⟨a,.inl ⟨by show (2:Int)≠0;decide,wEj j λz O=>(by obtain⟨B,_⟩|⟨_,P⟩:=C;(exact absurd B r);(rw[P]at O;cases O))⟩⟩ (λw h=>h.fewer (List.sublist_cons_self _ _))
 refine gj (λH=>?_) λH=>?_
 ·refine gc (XC p x M h o t.vol N.vol t.key) ?_;rintro _ c a b
  obtain⟨y,g,r1,n,e,rfl,d⟩:=b.q
  refine gh ?_
  exact AS (y,g,r1,n,e,c) (Keep.cons (t:=2) rfl (Keep.cons (t:=4) rfl (Keep.cons (t:=5) rfl (Keep.cons (t:=6) rfl Keep.nil)))) ⟨a,d.doq (by simp[HA,Eb,H])⟩ (λw h=>h)
 refine gj (λG=>?_) λG=>?_
 ·refine gc (XP p x M h o T.next t.vol t.on) ?_;rintro _ c a b
  obtain⟨y,g,r1,n,i,e,rfl,D⟩:=b.q
  have d:=D.po
  refine gh ?_
  exact AS (y,g,r1,n,e,c) (Keep.cons (t:=2) rfl (Keep.cons (t:=4) rfl (Keep.cons (t:=5) rfl (Keep.cons (t:=6) rfl Keep.nil)))) ⟨a,d.doq (by simp[HA,Eb,G])⟩ (λw h=>h)
 refine gj (λF=>?_) λF=>?_
 ·refine gc (TE p x M h o t.vol N.vol t.on) ?_;rintro _ c a b
  obtain⟨y,g,r1,n,e,rfl,d⟩:=b.q
  refine gh ?_
  exact AS (y,g,r1,n,e,c) (Keep.cons (t:=2) rfl (Keep.cons (t:=4) rfl (Keep.cons (t:=5) rfl (Keep.cons (t:=6) rfl Keep.nil)))) ⟨a,d.doq (by simp[HA,Eb,F])⟩ (λw h=>h)
 refine gj (λE=>?_) λE=>?_
 ·refine gc (X6 p x M h o t.vol) ?_;rintro _ c a b
  obtain⟨y,g,r1,n,e,rfl,d⟩:=b.q
  refine gh ?_
  exact AS (y,g,r1,n,e,c) (Keep.cons (t:=2) rfl (Keep.cons (t:=4) rfl (Keep.cons (t:=5) rfl (Keep.cons (t:=6) rfl Keep.nil)))) ⟨a,d.doq (by simp[HA,Eb,E])⟩ (λw h=>h)
 refine gj (λm=>?_) λm=>?_
 ·refine gc (X3 p x M h o) ?_;rintro _ c a b
  obtain⟨y,g,r1,n,e,rfl,d⟩:=b.q
  refine gh ?_
  exact AS (y,g,r1,n,e,c) (Keep.cons (t:=2) rfl (Keep.cons (t:=4) rfl (Keep.cons (t:=5) rfl (Keep.cons (t:=6) rfl Keep.nil)))) ⟨a,d.doq (by simp[HA,Eb,m])⟩ (λw h=>h)
 refine gj (λl=>?_) λl=>?_
 ·refine gc (FP p _ M h.pt T) ?_;rintro _ c a b
  obtain⟨y,g,r1,n,e,rfl,d⟩:=b.q
  refine gh ?_
  exact AS (y,g,r1,n,e,c) (Keep.cons (t:=2) rfl (Keep.cons (t:=4) rfl (Keep.cons (t:=5) rfl (Keep.cons (t:=6) rfl Keep.nil)))) ⟨a,d.doq (by simp[HA,Eb,l])⟩ (λw h=>h)
 refine gh ?_
 exact AS (x,p.gen,p.root,p.next,2,M) (Keep.cons (t:=2) rfl (Keep.cons (t:=4) rfl (Keep.cons (t:=5) rfl (Keep.cons (t:=6) rfl Keep.nil)))) ⟨MLe.refl _,.inl ⟨by show (2:Int)≠0;decide,(by simp[HA,Eb,L,K,J,j,H,G,F,E,m,l])⟩⟩ (λw h=>h)
end Go.Proofs.YtdahhoicackcaaaGreat
namespace Go.Proofs.YtdahhoicackcaaaGreat
open Go.Proofs.Tryz
open List (length_nil length_map length replicate)
set_option linter.unusedVariables false
set_option maxRecDepth 8000
set_option linter.unusedSimpArgs false
open Go.RowKit
section
variable{b p q:Po}
theorem PSim.keep(h:PSim b p q){x y:Except Int Po}(a:Es b x y):PSim b (Fj p x) (Fj q y):=by
 cases a with
 |err e=>exact h
 |ok c=>exact c
theorem PSim.layS(h:PSim b p q)(t:Tp){x y:Except Int (Po×Int)}(d:ERel (wPe b) x y):PSim b (layS p t x) (layS q t y):=by
 cases d with
 |err e=>exact h
 |@ok a c g=>
  obtain⟨p2,k⟩:=a
  obtain⟨i,j⟩:=c
  obtain⟨f,e⟩:=g
  cases e
  exact h.keep (PSim.put f t.vol ⟨t.key,k,[]⟩)
theorem PSim.layA(h:PSim b p q)(t:Tp)(a:Int):PSim b (layA p t a) (layA q t a):=by
 unfold Go.Proofs.YtdahhoicackcaaaGreat.layA
 refine h.layS t ?_
 split
 ·exact (h.psh a).bind (Ex · a) (Ex · a) (λe=>.err e) λp2 d c=>.ok ⟨c,rfl⟩
 exact h.lay _
theorem Fine.last_nz{p:Po}{S:List Nat}{hs:List Int}(h:Fine p S hs)(a:p.dead≠[]):¬p.st.now.getD (ER p).toNat 0=0:=by
 have b:ER p∈AX p:=by
  rw[BF]
  have:ER p∈p.dead:=by
   unfold ER
   rw[List.getLast?_eq_some_getLast a]
   exact List.getLast_mem a
  simp[this]
 exact(FV (h.ins _ b).2.2).2.2.1
theorem PSim.stp{S:List Nat}(h:PSim b p q)(a:Fine p S [])(t:Tp):PSim b (Eb p t) (Eb q t):=by
 unfold Eb
 split
 ·exact h.keep (KX h.cre)
 split
 ·exact h.keep (h.put _ _)
 split
 ·exact h.layA t 0
 split
 ·rw [<-h.fnd]
  cases H6 p t.frm t.key with
  |none=>exact h
  |some x=>
   show PSim b (if 0<x.ref then Go.Proofs.YtdahhoicackcaaaGreat.layA p t x.ref else p) (if 0<x.ref then Go.Proofs.YtdahhoicackcaaaGreat.layA q t x.ref else q)
   split
   ·exact h.layA t _
   exact h
 split
 ·exact h.keep (h.del _ _)
 split
 ·exact h.keep (h.sna _ _)
 split
 ·exact h.keep (h.frz _ _)
 split
 ·exact h.keep (h.rde _)
 split
 ·exact h.keep (h.rp a.last_nz)
 exact h
end
structure Ot2(s t:Sto)(g:Int):Prop where
 low:∀k,k<4->seen s k=seen t k
 tab:Cv s g=Cv t g
 up:∀k,k<256->(Cv s g).getD k 0≠0->seen s k=seen t k
variable{s:Sto}
theorem Ot2.eqv{t:Sto}{x:Su}(h:Ot2 s t x.gen)(c:DR (Cv s x.gen)):Eqv (CP s x).st (CP t x).st:=by
 have b:=h.tab
 refine⟨b,λk=>?_⟩
 by_cases e:k<256
 ·unfold Ai
  rw[show (CP t x).st.now=Cv s x.gen from b.symm,show (CP s x).st.now=Cv s x.gen from rfl]
  split
  ·rfl
  rename_i d
  rw[show seen (CP s x).st k=seen s k from rfl,show seen (CP t x).st k=seen t k from rfl,h.up k e d]
 have a:DR (Cv t x.gen):=by rw[<-b];exact c
 rw[Q5 (s:=(CP s x).st) c (.inr (by omega)),Q5 (s:=(CP t x).st) a (.inr (by omega))]
theorem Ot2.tryOk{t:Sto}{x:Su}(h:Ot2 s t x.gen)(e:dkOk t.blocks t.waits)(a:TryOk s x):TryOk t x:=by
 have b:=h.tab
 refine⟨by rw[<-b];exact a.ct,by rw[<-b];exact a.sum,?_⟩
 obtain⟨c,f⟩:=poChk_is.1 a.chk
 refine poChk_is.2 ⟨c,?_⟩
 rw[<-f]
 have d:Aq (CP t x).st:=⟨e,by show DR (Cv t x.gen);rw[<-b];exact a.ct,by show DR (Cv t x.gen);rw[<-b];exact a.ct⟩
 exact((h.eqv a.ct).cens a.st d _ _ _).symm
def wFj(s:Sto)(x:Su):Prop:=x∈BD s 4/\TryOk s x/\∀z∈BD s 4,x.gen<z.gen->¬TryOk s z
theorem Ot2.open{p:Po}{x y:Su}(h:BeH p x)(d:Ot2 (Bj p) s x.gen)(g:dkOk s.blocks s.waits)(c:wFj s y):y=x:=by
 have e:=Lo (s:=Bj p) (t:=s) λk i=>d.low k (by omega)
 have a:x∈BD s 4:=by rw[<-e];exact h.mem
 have j:¬y.gen<x.gen:=λf=>c.2.2 x a f (d.tryOk g h.ok)
 have b:=c.1
 rw[<-e]at b
 exact TH b h.mem (by have:=h.max y b;omega)
theorem Ot2.some{p:Po}{x:Su}(h:BeH p x)(a:Ot2 (Bj p) s x.gen)(b:dkOk s.blocks s.waits):∃y∈BD s 4,TryOk s y:=
 ⟨x,by rw[<-Lo (s:=Bj p) (t:=s) λk c=>a.low k (by omega)];exact h.mem,a.tryOk b h.ok⟩
def bz:Po:=⟨st0,0,8,1,[]⟩
def pz:Po:=⟨⟨[],[],[],[]⟩,0,0,0,[]⟩
structure Saf(p last:Po):Prop where
 fine:∃S,Fine p S []
 dk:dkOk p.st.blocks []
 way:(last=pz/\PSim bz p p/\p.gen=0)\/(∃p0 S0,last=Bn p0/\Fine p0 S0 []/\p0.gen<4294967295/\BeH last (GZ p0)/\PSim last p p)
theorem Sim.rfl':Sim s s s:=⟨rfl,rfl,rfl,Iff.rfl,λ_ _=>rfl,rfl,rfl,λ_ h=>.inl h⟩
theorem PSim.rfl'{p:Po}:PSim p p p:=⟨Sim.rfl',rfl,rfl,rfl,rfl,rfl⟩
theorem wNk:BD (Bj bz) 4=[]:=by decide +kernel
theorem BeH.psim{b p:Po}{x:Su}(h:BeH b x)(c:b.st.waits=[])(hs:PSim b p p):BeH p x:=by
 have e:Bj p=Bj b:=by unfold Bj;rw[hs.st.bl]
 refine⟨by rw[e];exact h.mem,by rw[e];exact h.ok,by rw[e];exact h.dk,by rw[e];exact h.max,by rw[e,hs.st.la];exact h.tab,λw d=>?_⟩
 rcases hs.st.ws w d with a|a
 ·rw [c]at a;cases a
 rw[hs.st.la];exact a
theorem saf_0:Saf po0 pz:=⟨⟨_,wAh⟩,(Ea Q0).1.st.1.1|>λh=>⟨h,Nat.zero_le _,(Ea Q0).1.st.1.2.2.1,λw a=>by cases a⟩,.inl ⟨rfl,⟨Sim.mkS (Sim.rfl' (s:=st0)) (by decide +kernel),rfl,rfl,rfl,rfl,rfl⟩,rfl⟩⟩
variable{last:Po}
theorem Saf.stp{p:Po}(h:Saf p last){t:Tp}(j:TpOk t):Saf (Eb p t) last/\(Eb p t).gen=p.gen:=by
 obtain⟨S,c⟩:=h.fine
 obtain⟨g,a⟩:=c.stp j
 rcases h.way with⟨f,b,e⟩|⟨i,l,f,b,e,k,d⟩
 ·have hs:=b.stp c t
  have eg:(Eb p t).gen=p.gen:=by rw[hs.bg,b.bg]
  exact⟨⟨⟨g,a⟩,by rw[hs.st.bl,<-b.st.bl];exact h.dk,.inl ⟨f,hs,by rw[eg,e]⟩⟩,eg⟩
 have hs:=d.stp c t
 have eg:(Eb p t).gen=p.gen:=by rw[hs.bg,d.bg]
 exact⟨⟨⟨g,a⟩,by rw[hs.st.bl,<-d.st.bl];exact h.dk,.inr ⟨i,l,f,b,e,k,hs⟩⟩,eg⟩
theorem Saf.beh{p:Po}(h:Saf p last):(∀w∈p.st.waits,8<=w.1/\w.1<256/\p.st.last.getD w.1.toNat 0=0)/\((last=pz/\p.gen=0/\BD (Bj p) 4=[])\/(∃a i,last=Bn a/\Fine a i []/\a.gen<4294967295/\BeH p (GZ a)/\p.gen=a.gen+1/\Bj p=Bj last)):=by
 rcases h.way with⟨d,c,g⟩|⟨a,i,d,c,g,b,f⟩
 ·refine ⟨λw k=>?_,.inl ⟨d,g,?_⟩⟩
  ·rcases c.st.ws w k with b|b
   ·cases b
   rw[c.st.la];exact b
  have e:Bj p=Bj bz:=by unfold Bj;rw[c.st.bl]
  rw[e];exact wNk
 have j:=b.psim (by rw[d];rfl) f
 exact⟨j.wts,.inr ⟨a,i,d,c,g,j,by rw[f.bg,d];rfl,by unfold Bj;rw[f.st.bl]⟩⟩
variable{z:Su}
theorem wNm(h:z∈BD s 4):∃k,k<4/\D6 s k=some z:=by
 unfold BD at h
 obtain⟨k,a,e⟩:=List.mem_filterMap.1 h
 exact⟨k,List.mem_range.1 a,e⟩
variable{k:Nat}
theorem wNj(hk:k<4)(h:D6 s k=some z):z∈BD s 4:=by
 unfold BD;exact List.mem_filterMap.2 ⟨k,List.mem_range.2 hk,h⟩
theorem Saf.com{p:Po}(h:Saf p last)(E:p.gen<4294967294):Saf (Bn p) (Bn p):=by
 obtain⟨S,i⟩:=h.fine
 have b:=i.pon (by omega)
 have j:=i.ask (by omega)
 have a:=(Ea j).1
 have f:p.gen≠4294967295:=by omega
 obtain⟨t,u⟩:=h.beh
 have C:BD (Bj (Bn p)) 4=BD (Bn p).st 4:=Lo λk _=>rfl
 have g:dkOk (Bn p).st.blocks []:=(Pu a b).1
 have hs:=ZE b f
 have l:=wLc (QN a) hs.1 hs.2.1 hs.2.2
 have d:∀z∈BD (Bj (Bn p)) 4,z.gen<=(GZ p).gen:=λz s=>by
  obtain⟨k,o,e⟩:=wNm s
  by_cases r:(k:Int)=(p.gen+1)%4
  ·have:seen (Bj (Bn p)) k=PG (GZ p):=by
    have:=TT a b
    rw[<-r,Int.toNat_natCast]at this;exact this
   unfold D6 at e
   rw[this,l.2]at e
   split at e
   ·cases e;exact Int.le_refl _
   cases e
  have:seen (Bj (Bn p)) k=seen (Bj p) k:=Y6 b o r λw m=>by have:=t w m;omega
  have D:D6 (Bj p) k=some z:=by unfold D6 at e ⊢;rw[<-this];exact e
  have c:=wNj o D
  rcases u with⟨_,_,B⟩|⟨n,L,I,H,G,y,F,_⟩
  ·rw [B]at c;cases c
  have:=y.max z c
  have K:(GZ n).gen=n.gen+1:=rfl
  have J:(GZ p).gen=p.gen+1:=rfl
  omega
 refine⟨⟨S,i.com (by omega)⟩,g,.inr ⟨p,S,rfl,i,by omega,⟨by rw[C];exact Rz a b f,⟨(KD j b).ct,(KD j b).sum,(KD j b).chk⟩,g,d,MV a b,λw m=>by cases m⟩,PSim.rfl'⟩⟩
def L4(x:Po×Po)(t:Tp):Po×Po:=(HA x.1 t,if x.1.gen<(HA x.1 t).gen then HA x.1 t else x.2)
def Bp(l:List Tp):Po×Po:=l.foldl L4 (po0,pz)
variable{n:Nat}
theorem ZQ{x:Po×Po}{t:Tp}(h:Saf x.1 x.2)(c:x.1.gen<=n)(g:n<1000)(b:TpOk t):Saf (L4 x t).1 (L4 x t).2/\(L4 x t).1.gen<=n+1:=by
 obtain⟨p,last⟩:=x
 dsimp only at h c
 unfold L4
 dsimp only
 by_cases a:t.kind=10
 ·obtain ⟨S,d⟩:=h.fine
  have e:HA p t=Bn p:=by unfold HA;rw[if_pos a,d.com_is (by omega)];rfl
  have eg:(Bn p).gen=p.gen+1:=rfl
  rw[e,if_pos (by omega)]
  exact⟨h.com (by omega),by omega⟩
 have e:HA p t=Eb p t:=by unfold HA;rw[if_neg a]
 obtain⟨f,i⟩:=h.stp b
 rw[e,if_neg (by omega)]
 exact⟨f,by omega⟩
variable{l:List Tp}
theorem QW(i:l.length<=100)(g:∀t∈l,TpOk t):Saf (Bp l).1 (Bp l).2/\(Bp l).1.gen<=100:=by
 have:∀(l:List Tp)(x:Po×Po)(n:Nat),(∀t∈l,TpOk t)->Saf x.1 x.2->x.1.gen<=n->n+l.length<=100->Saf (l.foldl L4 x).1 (l.foldl L4 x).2/\(l.foldl L4 x).1.gen<=100:=by
  intro l
  induction l with
  |nil=>intro x n _ b c a;exact⟨b,by rw[length_nil]at a;show x.1.gen<=100;omega⟩
  |cons t l e=>
   intro x n d b c a
   rw[List.length_cons]at a
   obtain⟨h,j⟩:=ZQ b c (by omega) (d t (by simp))
   exact e (L4 x t) (n+1) (λy f=>d y (by simp[f])) h (by omega) (by omega)
 exact this l (po0,pz) 0 g saf_0 (by decide) (by omega)
end Go.Proofs.YtdahhoicackcaaaGreat
namespace Go.Proofs.YtdahhoicackcaaaGreat
open Go.Proofs.Tryz
open List (length_nil length_map length replicate)
set_option linter.unusedVariables false
set_option maxRecDepth 8000
set_option linter.unusedSimpArgs false
open Go.RowKit
abbrev MA(bs:List (List By)):Sto:=⟨bs,[],[],[]⟩
def Wok(p:Po)(w:Wt):Prop:=w.2.length=128/\((8<=w.1/\w.1<256/\p.st.last.getD w.1.toNat 0=0)\/(4<=w.1/\w.1<8/\w.1≠4+2*(p.gen%2)/\w.1≠4+2*(p.gen%2)+1))
theorem Nw(bs:List (List By))(v w:List Wt):AW (AW bs v) w=AW bs (v++w):=by unfold AW;rw[List.foldl_append]
variable{k:Nat}{ws:List Wt}
theorem Wm{p:Po}(a:∀w∈ws,Wok p w)(hk:k<4):seen (Bj p) k=seen (MA (AW p.st.blocks ws)) k:=by
 show p.st.blocks.getD k []=(AW p.st.blocks ws).getD k []
 rw[EY _ k _ λw h=>by have:=(a w h).2;omega]
theorem wFp{p:Po}{x:Su}(i:BeH p x)(f:x.gen=p.gen)(j:0<=p.gen)(c:Aq p.st)(a:∀w∈ws,Wok p w):Ot2 (Bj p) (MA (AW p.st.blocks ws)) x.gen:=by
 have hs:∀k:Nat,(∀w∈ws,w.1≠(k:Int))->seen (Bj p) k=seen (MA (AW p.st.blocks ws)) k:=λk b=>by
  show p.st.blocks.getD k []=(AW p.st.blocks ws).getD k []
  rw[EY _ k _ λw h=>⟨by have:=(a w h).2;omega,b w h⟩]
 refine⟨λk b=>Wm a b,?_,λk b g=>hs k λw h e=>g ?_⟩
 ·unfold Cv
  rw[f,hs _ λw h=>by have:=(a w h).2;omega,hs _ λw h=>by have:=(a w h).2;omega]
 rw[i.tab]
 rcases (a w h).2 with d|d
 ·rw [show k=w.1.toNat by omega];exact d.2.2
 exact Q3 c.2.2 (.inl (by omega))
def Got(p last:Po)(three:Prop)(s:Sto):Prop:=dkOk s.blocks s.waits/\((last.gen=0/\BD s 4=[])\/
 (∃y,(∀x,wFj s x->x=y)/\(∃z∈BD s 4,TryOk s z)/\((0<last.gen/\PEq last (CP s y)/\y.gen=last.gen/\∃S,Fine last S [])\/(three/\PEq (Bn p) (CP s y)/\y.gen=(Bn p).gen/\∃S,Fine (Bn p) S []))))
variable{last:Po}
theorem VE{p:Po}(h:Saf p last)(g:∀w∈ws,Wok p w)(three:Prop):Got p last three (MA (AW p.st.blocks ws)):=by
 obtain⟨S,n⟩:=h.fine
 have b:dkOk (AW p.st.blocks ws) []:=Ka h.dk λw y=>(g w y).1
 refine⟨b,?_⟩
 obtain⟨_,C⟩:=h.beh
 have F:BD (Bj p) 4=BD (MA (AW p.st.blocks ws)) 4:=Lo λk z=>Wm g z
 rcases C with⟨a,f,l⟩|⟨c,I,a,f,l,e,E,r⟩
 ·exact .inl ⟨by rw[a];rfl,by rw[<-F];exact l⟩
 right
 have d:Ot2 (Bj p) (MA (AW p.st.blocks ws)) (GZ c).gen:=wFp e E.symm n.gen n.en.ok g
 have u:=f.pon (by omega)
 have j:=PoOk.of f.chk
 have i:=d.tryOk b e.ok
 have B:=f.gen
 refine⟨GZ c,λx t=>d.open e b t,d.some e b,.inl ⟨by rw[a];show 0<c.gen+1;omega,?_,by rw[a];rfl,I,by rw[a];exact f.com l⟩⟩
 have m:CP (Bj p) (GZ c)=last:=by rw[r,a];exact RG j u
 have o:=d.eqv e.ok.ct
 rw[m]at o
 refine⟨o,i.st,by rw[a];rfl,by rw[a];rfl,by rw[a];rfl,λk _ D s=>?_⟩
 have H:seen last.st k=seen (Bj p) k:=by rw[r,a];rfl
 rw[H]
 refine d.up k D ?_
 have G:Cv (Bj p) (GZ c).gen=last.st.now:=by rw[<-m];rfl
 rw[G];exact s
theorem wBt{keep:List Bool}{w:Wt}(h:keep.length=1):CQ keep [w]=[]\/CQ keep [w]=[w]:=by
 match keep,h with
 |[true],_=>exact .inr rfl
 |[false],_=>exact .inl rfl
theorem KK{p:Po}(h:Saf p last):∀w∈p.st.waits,Wok p w:=λw a=>by
 obtain⟨S,b⟩:=h.fine
 obtain⟨c,_⟩:=h.beh
 exact⟨(b.en.ok.1.w w a).2.2,.inl (c w a)⟩
theorem Wl{p:Po}(h:Saf p last)(e:p.gen<=1000):∀w∈Bx p 1,Wok p w:=λw a=>by
 obtain⟨S,b⟩:=h.fine
 have c:=b.pon (by omega)
 have:=(KE (PoOk.of b.chk) c 1).2 w a
 refine⟨this.2.2,.inr ?_⟩
 have d:=b.gen
 simp only[Bx,wts,List.mem_cons,List.not_mem_nil,or_false]at a
 rcases a with rfl|rfl
 ·dsimp only;omega
 dsimp only;omega
theorem H3{p:Po}(h:Saf p last)(keep:List Bool)(three:Prop):Got p last three (MA (AW p.st.blocks (CQ keep p.st.waits))):=VE h (λw a=>KK h w (Hp a)) three
variable{phase:Nat}
theorem Xa{p:Po}(h:Saf p last)(m:p.gen<=1000)(hp:1<=phase/\phase<=3){keep:List Bool}(hk:keep.length=(FA p phase).2.length):Got p last (phase=3) (MA (AW (FA p phase).1 (CQ keep (FA p phase).2))):=by
 obtain⟨S,i⟩:=h.fine
 have B:=i.pon (by omega)
 have r:=PoOk.of i.chk
 match phase,hp with
 |1,_=>exact H3 h keep _
 |2,_=>
  show Got p last _ (MA (AW (AW p.st.blocks p.st.waits) (CQ keep (Bx p 1))))
  rw[Nw]
  exact VE h (λw b=>(List.mem_append.1 b).elim (KK h w) λb=>Wl h m w (Hp b)) _
 |3,_=>
  have g:keep.length=1:=hk
  show Got p last _ (MA (AW (AW (AW p.st.blocks p.st.waits) (Bx p 1)) (CQ keep (Bx p 2))))
  rcases wBt (w:=((p.gen+1)%4,PG (GZ p))) g with e|e
  ·rw [show CQ keep (Bx p 2)=[]from e,Nw,Nw,List.append_nil]
   exact VE h (λw b=>(List.mem_append.1 b).elim (KK h w) (Wl h m w)) _
  rw[show CQ keep (Bx p 2)=Bx p 2 from e]
  have hs:=h.com (by omega)
  have t:=hs.beh.2
  rcases t with⟨k,_⟩|⟨d,E,k,n,D,j,u,C⟩
  ·exact absurd (congrArg Po.gen k) (by show ¬p.gen+1=0;have:=i.gen;omega)
  have y:MA (AW (AW (AW p.st.blocks p.st.waits) (Bx p 1)) (Bx p 2))=Bj (Bn p):=rfl
  rw[y]
  have a:dkOk (Bj (Bn p)).blocks (Bj (Bn p)).waits:=j.dk
  have l:Ot2 (Bj (Bn p)) (Bj (Bn p)) (GZ d).gen:=⟨λ_ _=>rfl,rfl,λ_ _ _=>rfl⟩
  have f:=n.pon (by omega)
  have s:CP (Bj (Bn p)) (GZ d)=Bn p:=by rw[k];exact RG (PoOk.of n.chk) f
  obtain⟨z,c⟩:=hs.fine
  refine⟨a,.inr ⟨GZ d,λx o=>l.open j a o,l.some j a,.inr ⟨rfl,?_,u.symm,z,c⟩⟩⟩
  rw[s]
  exact⟨⟨rfl,λ_=>rfl⟩,c.en.ok,rfl,rfl,rfl,λ_ _ _ _=>rfl⟩
end Go.Proofs.YtdahhoicackcaaaGreat
namespace Go.Proofs.YtdahhoicackcaaaGreat
open Go.Proofs.Tryz
open List (length_nil length_map length replicate)
set_option linter.unusedVariables false
set_option maxRecDepth 8000
set_option linter.unusedSimpArgs false
open Go.RowKit
variable{R:List Int}{S:List Nat}{s:Sto}
theorem Tf(e:En s S R):∀(l n:Nat)(xs:List It),n∈S->Ai s n=some ((l:Int),xs)->∀x∈Aw s l xs,0<x.ref->(8<=x.ref/\x.ref<256)/\x.ref.toNat∉S/\¬s.now.getD x.ref.toNat 0=0
 |0,n,xs,f,b,x,a,g=>by
  rw[B2]at a
  rcases (Ar b).ref x a with d|d
  ·omega
  have j:=G5 f b a
  exact⟨d,e.disj n f xs b x a (by omega),e.live (by omega) d.2 (by omega)⟩
 |l+1,n,xs,f,b,x,a,g=>by
  unfold Aw at a
  obtain⟨y,h,a⟩:=List.mem_flatMap.1 a
  obtain⟨d,zs,i⟩:=e.closed n f _ xs b (by omega) y h
  have c:Ai s y.ref.toNat=some ((l:Int),zs):=by rw[i];congr 2;omega
  rw[A3 c]at a
  exact Tf e l _ zs d c x a g
variable{hs:List Int}{k:Int}
theorem Fine.nodes_in{p:Po}(h:Fine p S hs)(hk:k∈BH p):k.toNat∈S:=by
 obtain⟨R,N,b,c⟩:=h.cens
 have:BH p=Kj N 256:=by unfold BH;rw[b]
 rw[this]at hk
 unfold Kj at hk
 obtain⟨n,a,rfl⟩:=List.mem_map.1 hk
 rw[Int.toNat_natCast]
 exact(h.rcs ((c.on n).1 (of_decide_eq_true (List.mem_filter.1 a).2))).1
variable{i:Int}
theorem Fine.item{p:Po}(h:Fine p S hs){a b:Ky}{x:It}(c:x∈Dk p i a b)(z:0<x.ref):daE p x.ref false=0/\(8<=x.ref/\x.ref<256)/\¬p.st.now.getD x.ref.toNat 0=0:=by
 unfold Dk vrnE at c
 by_cases f:volE p i=0
 ·rw [if_pos f]at c
  split at c
  ·rename_i j
   obtain⟨_,_,_,_,_,m⟩:=h.volx f
   obtain⟨_,s,_⟩:=h.ins _ m
   rw[wMm j]at c
   have d:=(List.mem_filter.1 c).1
   obtain⟨_,_,_,l,xs,g,_⟩:=FV j
   have r:allT p.st (volV p i).root=Aw p.st l xs:=by unfold allT;rw[g];simp
   rw[r]at d
   obtain⟨u,t,k⟩:=Tf h.en l _ xs s g x d z
   refine⟨B5 h.chk (by omega) (λe=>k (UInt8.toNat.inj (by have y:(0:By).toNat=0:=rfl;omega))) (λn=>t (h.nodes_in n)) (λo=>by cases o.1),u,k⟩
  cases c
 rw[if_neg f]at c
 rw[if_neg f]at c;cases c
structure Alk(p q:Po):Prop where
 ok1:Ax p=0
 ok2:Ax q=0
 gen:p.gen=q.gen
 next:p.next=q.next
 dead:p.dead=q.dead
 cens:cens p.st p.root p.next p.dead=Go.Proofs.YtdahhoicackcaaaGreat.cens q.st q.root q.next q.dead
 rng:∀i a b,Dk p i a b=Dk q i a b
 dat:∀i a b,∀x∈Dk p i a b,0<x.ref->daE p x.ref false=0/\daE q x.ref false=0/\seen p.st x.ref.toNat=seen q.st x.ref.toNat
theorem PEq.alk{p q:Po}{s:List Nat}(c:PEq p q)(hp:Fine p S [])(h:Fine q s [])(k:p.gen=q.gen):Alk p q:=by
 have e:Go.Proofs.YtdahhoicackcaaaGreat.cens p.st p.root p.next p.dead=Go.Proofs.YtdahhoicackcaaaGreat.cens q.st q.root q.next q.dead:=by
  rw[<-c.root,<-c.next,<-c.dead];exact c.st.cens hp.en.ok c.ok _ _ _
 have g:∀i a b,Dk p i a b=Dk q i a b:=λi a b=>by
  have r:volE p i=volE q i:=by unfold volE;rw[e]
  have o:volV p i=volV q i:=by unfold volV;rw[e]
  unfold Dk vrnE
  rw[r,o,c.st.fchk hp.en.ok c.ok,c.st.rng]
 refine⟨hp.chk,h.chk,k,c.next,c.dead,e,g,λi a b x f j=>?_⟩
 obtain⟨n,t,m⟩:=hp.item f j
 have d:=f
 rw[g]at d
 obtain⟨l,_,_⟩:=h.item d j
 exact⟨n,l,c.see _ (by omega) (by omega) m⟩
variable{b:Po}
theorem PSim.peq{p q:Po}(h:PSim b p q)(c:Aq q.st):PEq p q:=⟨h.st.eqv,c,h.root,h.next,h.dead,λk _ _ a=>h.st.seen k a⟩
theorem PEq.symm{p q:Po}(h:PEq p q)(hp:Aq p.st):PEq q p:=⟨⟨h.st.now.symm,λk=>(h.st.nd k).symm⟩,hp,h.root.symm,h.next.symm,h.dead.symm,λk c b a=>(h.see k c b (by rw[h.st.now];exact a)).symm⟩
def Zk(p:Po)(t:Tp):Po:=if t.kind=10 then p else Eb p t
def Eh(p:Po)(l:List Tp):Po:=l.foldl Zk p
theorem RW:∀(l:List Tp){p q:Po},(∀t∈l,TpOk t)->PSim b p q->(∃S,Fine p S [])->(∃S,Fine q S [])->PSim b (Eh p l) (Eh q l)/\(∃S,Fine (Eh p l) S [])/\(∃S,Fine (Eh q l) S [])
 |[],p,q,_,h,a,c=>⟨h,a,c⟩
 |t::l,p,q,f,h,a,c=>by
  have e:∀p,Eh p (t::l)=Eh (Zk p t) l:=λ_=>rfl
  rw[e,e]
  by_cases i:t.kind=10
  ·have d:∀p,Zk p t=p:=λp=>by unfold Zk;rw[if_pos i]
   rw[d,d];exact RW l (λx g=>f x (by simp[g])) h a c
  have d:∀p,Zk p t=Eb p t:=λp=>by unfold Zk;rw[if_neg i]
  rw[d,d]
  obtain⟨k,a⟩:=a
  obtain⟨j,c⟩:=c
  exact RW l (λx g=>f x (by simp[g])) (h.stp a t) (a.stp (f t (by simp))) (c.stp (f t (by simp)))
end Go.Proofs.YtdahhoicackcaaaGreat
namespace Go.Proofs.YtdahhoicackcaaaGreat
open Go.Proofs.Tryz
open List (length_nil length_map length replicate)
set_option linter.unusedVariables false
set_option maxRecDepth 8000
set_option maxHeartbeats 40000000
set_option linter.unusedSimpArgs false
open Go.RowKit
def wLb(p:Tp×Sl):List Value:=wGa p.1 p.2
theorem MC(p:Tp×Sl):(wLb p).length=8:=rfl
def TS(M:Mem)(a:Option Addr)(ts:List Tp):Prop:=∃ps:List (Tp×Sl),SM M a (ps.flatMap wLb)/\ps.map (·.1)=ts/\∀p∈ps,BS M p.2.v p.1.val
variable{M:Mem}{a:Option Addr}{ts:List Tp}
theorem TS.mono{M':Mem}(h:TS M a ts)(b:MLe M M'):TS M' a ts:=by
 obtain⟨c,g,f,e⟩:=h;exact⟨c,g.mono b,f,λp d=>(e p d).mono b⟩
variable{k:Nat}
theorem TS.at_(h:TS M a ts)(hk:k<ts.length):∃b o,∃s:Sl,a=some ⟨b,o,none⟩/\(∀i v,(wGa ts[k] s)[i]? =some v->CM M b (o+k*8+i) v)/\BS M s.v ts[k].val:=by
 obtain⟨d,l,rfl,j⟩:=h
 have c:k<d.length:=by rw[length_map]at hk;exact hk
 obtain⟨b,o,e,g⟩:=l.open (by intro e;have:=congrArg length e;rw[Aj wLb 8 MC,length_nil]at this;omega)
 refine⟨b,o,d[k].2,e,λi v f=>?_,?_⟩
 ·rw [List.getElem_map]at f
  exact Cs wLb 8 MC g (List.getElem?_eq_getElem c) i v f
 rw[List.getElem_map];exact j _ (List.getElem_mem c)
theorem Yj(b n:Nat)(d:n<=1000000):Own (.slice (some ⟨b,0,none⟩) n n) [(b,cE ((replicate n [Value.bool false]).flatten) 4)] 4 1 n (Bo (replicate n false)):=by
 have e:(replicate n [Value.bool false]).flatten=Bo (replicate n false):=by unfold Bo;induction n with
  |zero=>rfl
  |succ n c=>rw[List.replicate_succ,List.flatten_cons,c (by omega),List.replicate_succ];rfl
 have a:(Bo (replicate n false)).length=n:=by unfold Bo;rw[length_map,List.length_replicate]
 refine⟨by rw[a];omega,.inr ⟨b,n,_,rfl,rfl,Nat.le_refl _,by unfold maxLen;omega,by rw[e,List.size_toArray,a];omega,?_⟩⟩
 rw[e,List.take_of_length_le (by simp only[a];omega)]
variable{R:Lc}{e:TypeId}{size:Nat}{xs:List Value}
theorem Own.opn1{v:Value}{n:Nat}(h:Own v R e size n xs)(d:0<n):∃g c,v=.slice (some ⟨g,0,none⟩) n c/\v.ownBlock=some g:=by
 rcases h.2 with⟨_,f,_⟩|⟨g,a,b,rfl,_⟩
 ·omega
 exact⟨g,a,rfl,rfl⟩
def N0:Ky:=⟨0,0,0⟩
def N1:Ky:=⟨255,4294967295,4294967295⟩
variable{j:Nat}
theorem boget{xs:List Bool}(h:j<xs.length):(Bo xs)[j]? =some (.bool xs[j]):=by simp[Bo,h]
theorem JI(e:List Tp)(a:Option Addr)(c:Nat)(M:Mem)(f:TS M a e)(m:Nat)(F:m<=1000):
  SpecL prog 6 #[.slice a e.length c,.int .i64 (m:Int)] M [] λu M' C=>(∃b,u=.bool b/\(b=false->e.length<=m))/\C=[]:=by
 refine sB func6 ntmps6 ?_;intro W
 refine gh ?_
 refine Cz (α:=Nat×Int) (λz=>[(0,.slice a e.length c),(1,.int .i64 (m:Int)),(5,.int .i64 z.2),(6,.int .i64 (z.1:Int))]) (λ_=>M) (λ_=>[]) (λz=>z.1<=100/\0<=z.2/\z.2<=z.1*100000) (λz=>100-z.1) (0,0) ⟨Nat.zero_le _,Int.le_refl _,by decide⟩ ?_
 rintro⟨k,n⟩ ⟨y,i,g⟩
 try dsimp only at y i g⊢
 refine gj (λr=>?_) λr=>?_
 ·refine gj (λo=>?_) λo=>?_
  ·refine gh ?_
   have j:k<e.length:=by omega
   obtain⟨E,D,s,B,l,t⟩:=f.at_ j
   subst B
   refine gh ?_
   refine lq (AE (v:=s.v) rfl rfl rfl rfl ((l 6 _ rfl).cj _)) ?_
   refine gh ?_
   refine lq (qMin rfl rfl rfl rfl) ?_
   refine gh ?_
   refine Bw (k+1,n+min (s.n:Int) 100000) ⟨by show k+1<=100;omega,by show 0<=n+_;omega,by show n+_<=((k+1:Nat):Int)*100000;omega⟩
  refine gj (λd=>?_) λd=>?_
  ·refine gr ?_
   exact⟨⟨_,rfl,λh=>by first|cases h|omega⟩,rfl⟩
  refine gr ?_
  exact⟨⟨_,rfl,λh=>by first|cases h|omega⟩,rfl⟩
 refine gj (λd=>?_) λd=>?_
 ·refine gr ?_
  exact⟨⟨_,rfl,λh=>by first|cases h|omega⟩,rfl⟩
 refine gr ?_
 exact⟨⟨_,rfl,λh=>by first|cases h|omega⟩,rfl⟩
theorem DH(keep:List Bool)(i:Option Addr)(C:Nat)(M:Mem)(j:SM M i (Bo keep))(I:keep.length<=1000000)(m:Nat)(H:m<=1000000):
  SpecL prog 11 #[.slice i keep.length C,.int .i64 (m:Int)] M [] λu M' V=>(∃(a:Option Addr)(P:Nat)(b:List Bool),u=.slice a b.length P/\b.length=m/\SM M' a (Bo b))/\V=[]:=by
 refine sB func11 ntmps11 ?_;intro W
 refine gh ?_
 refine lh (EJ rfl rfl rfl rfl (by omega) (by rfl)) ?_;rintro _ _ _ ⟨D,rfl,rfl,rfl⟩
 refine gh ?_
 have E:=Yj D m H
 refine gh ?_
 refine Cz (α:=Nat×Option Addr×Nat×Lc×List Bool) (λz=>[(0,.slice i keep.length C),(1,.int .i64 (m:Int)),(5,.slice z.2.1 m z.2.2.1),(6,.int .i64 (z.1:Int))]) (λ_=>M) (λz=>z.2.2.2.1++[]) (λz=>z.1<=m/\z.2.2.2.2.length=m/\Own (.slice z.2.1 m z.2.2.1) z.2.2.2.1 4 1 m (Bo z.2.2.2.2)) (λz=>m-z.1) (0,some ⟨D,0,none⟩,m,_,replicate m false) ⟨Nat.zero_le _,by rw[List.length_replicate],E⟩ ?_
 rintro⟨k,oa,Z,R,b⟩ ⟨J,d,f⟩
 try dsimp only at J d f⊢
 refine gj (λy=>?_) λy=>?_
 ·refine gj (λt=>?_) λt=>?_
  ·refine gh ?_
   have l:k%keep.length<keep.length:=Nat.mod_lt _ (by omega)
   obtain⟨Y,X,O,G⟩:=j.open (by intro e;have:=congrArg length e;rw[show (Bo keep).length=keep.length by simp[Bo],length_nil]at this;omega)
   subst O
   obtain⟨g,gc,N,o⟩:=f.opn1 (by omega)
   cases N
   refine lq (qRem rfl rfl rfl rfl (by omega) (by omega)) ?_
   have L:0<=(k:Int)%(keep.length:Int):=Int.emod_nonneg _ (by omega)
   have K:(k:Int)%(keep.length:Int)<keep.length:=Int.emod_lt_of_pos _ (by omega)
   have n:((k:Int)%(keep.length:Int)).toNat=k%keep.length:=by rw[<-Int.natCast_emod];exact Int.toNat_natCast _
   refine gh ?_
   refine lq (AE (v:=.bool keep[k%keep.length]) rfl rfl rfl rfl ((G _ _ (by rw[Nat.mul_one,n];exact boget l)).cj _)) ?_
   refine gh ?_
   refine Dz rfl (CZ (R:=R) rfl rfl rfl rfl rfl rfl f o (by omega)) ?_;rintro _ _ _ ⟨rfl,T,rfl,F⟩
   refine gh ?_
   refine Bw (k+1,some ⟨g,0,none⟩,_,T,b.set k keep[k%keep.length]) ⟨by show k+1<=m;omega,by rw[List.length_set];exact d,by have h:=F;rw[Nat.zero_add,Nat.mul_one,Int.toNat_natCast]at h;unfold Bo at h ⊢;rw[List.map_set];exact h⟩
  refine gh ?_
  refine Cj f (by simp) ?_
  intro U S Q s B r c;cases B
  refine gr ?_
  exact⟨⟨_,_,b,by rw[d],d,c⟩,rfl⟩
 refine gh ?_
 refine Cj f (by simp) ?_
 intro U S Q s B r c;cases B
 refine gr ?_
 exact⟨⟨_,_,b,by rw[d],d,c⟩,rfl⟩
theorem T7(p:Po)(x:V5)(M:Mem)(h:PT5 M x p)(b:p.dead.length<=1000000)(q:Int):
  SpecL prog 77 #[.agg (AO x p.gen p.root p.next).toArray,.int .u32 q] M [] λu M' d=>NS M' u (Dk p q N0 N1)/\d=[]:=by
 refine sB func77 ntmps77 ?_;intro W
 refine Ao (Ah ?_)
 refine lh (Bf (cs:=[_,_,_,_,_,_,_,_]) rfl rfl rfl rfl) ?_;rintro _ _ _ ⟨e,rfl,rfl,rfl⟩
 refine jp rfl ?_
 refine Am (jT (Ao (Ah ?_)))
 refine lq (Gz rfl rfl rfl rfl rfl) ?_
 refine jp rfl ?_
 refine lq (Bc (Bk (cs:=[_,_,_]) rfl rfl rfl (by rfl)) (v':=.agg (AG N0).toArray) rfl) ?_
 refine lq (Bc (Bk (cs:=[_,_,_]) rfl rfl rfl (by rfl)) (v':=.agg (AG N1).toArray) rfl) ?_
 refine gc (Se p x M h b q N0 N1) ?_;rintro _ f c ⟨s,rfl,a⟩
 refine gr ?_
 exact⟨a,rfl⟩
end Go.Proofs.YtdahhoicackcaaaGreat
namespace Go.Proofs.YtdahhoicackcaaaGreat
open Go.Proofs.Tryz
open List (length_nil length_map length replicate)
set_option linter.unusedVariables false
set_option maxRecDepth 8000
set_option linter.unusedSimpArgs false
open Go.ChangeShapes Go.WideShapes Go.ChangeAt Go.RowKit
def Hm(W:World):Mem:=λb=>W.heap[b]?
variable{P:Program}{W:World}{args:Array Value}{f:FuncId}
theorem SpecL.run{v:Value}(h:SpecL P f args (Hm W) [] λu _ _=>u=v):Calls P f args W λe c=>e=.returned v/\Below W.heap.size W c:=by
 have b:St ⟨W,([]:Lc).map (·.1),Hm W⟩ (Hm W) [] W:=
  {os:=rfl,tape:=rfl,output:=rfl,size:=Nat.le_refl _,same:=λ_ _ _=>rfl,fresh:=λ_ _=>rfl,agree:=λ_ _ h=>h
   locs:=λp d=>by cases d
   nodup:=by simp }
 refine(h W b).mono λe c i=>?_
 obtain⟨u,M',j,rfl,rfl,a⟩:=i
 exact⟨rfl,⟨a.os,a.tape,a.output,a.size,λk g=>a.same k g (by simp)⟩⟩
variable{H:Type}{enc:TypeId×Value->H}
theorem Jd(f:laidOutB P=true){i:World}(g:Below W.heap.size W i):∀(ts:List TypeId)(vs:List Value)(ds:List (DataW H))(ps:List MemPlace),
  ts.all (λt=>P.readableRec t&&decide (t<P.types.size))=true->(∀x∈ps,x.block<W.heap.size)->
  DataW.TrodAll enc P W 0 (λ_=>true) true ts vs ds ps->DataW.TrodAll enc P i 0 (λb=>decide (b<W.heap.size)) true ts vs ds ps
 |[],[],[],ps,_,_,h=>h
 |t::ts,v::vs,d::ds,ps,c,a,h=>by
  obtain⟨p,q,k,j,rfl⟩:=h
  simp only[List.all_cons,Bool.and_eq_true,decide_eq_true_eq]at c
  exact⟨p,q,Below.trod f c.1.1 c.1.2 k g (λx e=>a x (by simp[e])),Jd f g ts vs ds q c.2 (λx e=>a x (by simp[e])) j,rfl⟩
 |[],_::_,_,_,_,_,h=>h.elim
 |[],[],_::_,_,_,_,h=>h.elim
 |_::_,[],_,_,_,_,h=>h.elim
 |_::_,_::_,[],_,_,_,h=>h.elim
theorem A.laid:laidOutB prog=true:=by kernel_rfl
theorem A.own:ownKnob prog.godebug=none:=by kernel_rfl
variable{s:ChangeSpec}{ds:List (DataW H)}
theorem Tg{f:Func}{l:World}{k:List (DataW H)}{p:List MemPlace}
  (i:DataW.Whole enc prog f.params.toList s.vars false W args.toList ds k p) (n:f.params.toList.all (λt=>prog.readableRec t&&decide (t<prog.types.size))=true)
  (e:s.vars=[]) (b:f.resultTypes=#[4]) (a:(s.fn H (ds++k))={ results:=[.lit (.bool true)],args:=ds }) (g:Below W.heap.size W l):
  s.post enc prog f false true false false W args (.bool true) l:=by
 have c:=i
 obtain⟨d,y,u,j,rfl,r,o⟩:=i
 rw[e]at j
 obtain⟨rfl,rfl⟩:=trodVars_none j
 refine⟨ds,[],d++[],[],d,[],c,?_,?_,?_,g.frame _,λh=>by cases h⟩
 ·rw [a,b];exact trodAll_mk1 (shut_bool Tryz.underlying4 _)
 ·rw [a]
  exact Jd A.laid g _ _ _ _ n (λx m=>c.lt x (by simp[m])) u
 rw[a,e];exact rfl
variable{n:Int}
theorem Zx(h:(Lit.int .u8 n).wf=true):0<=n/\n<256:=by
 simp[Lit.wf,IntKind.min,IntKind.max,IntKind.signed,IntKind.bits]at h;omega
end Go.Proofs.YtdahhoicackcaaaGreat
namespace Go.Proofs.YtdahhoicackcaaaGreat
open Go.Proofs.Tryz
open List (length_nil length_map length replicate)
set_option linter.unusedVariables false
set_option maxRecDepth 8000
set_option linter.unusedSimpArgs false
open Go.ChangeShapes Go.WideShapes Go.ChangeAt Go.RowKit Go.Joins
variable{W:World}{a:Addr}
theorem QG{v:Value}(h:W.cell? a=some v):∃c e b,W.heap[a.block]? =some (.cells c e b)/\a.spot=none/\c[a.off]? =some v:=by
 unfold World.cell? at h
 split at h
 ·rename_i c e b d
  split at h
  ·cases h
  rename_i hs;exact⟨c,e,b,d,by simpa using hs,h⟩
 cases h
variable{b:Nat}
theorem wFf{off j:Nat}:(⟨b,off,none⟩:Addr).add j=⟨b,off+j,none⟩:=by unfold Addr.add;split<;>simp_all
variable{cs:List Value}
theorem Ns(h:∀i u,cs[i]? =some u->W.cell? (a.add i)=some u):SM (Hm W) (some a) cs:=by
 cases cs with
 |nil=>exact .inl rfl
 |cons u n=>
  obtain⟨s,r,k,o,hs,_⟩:=QG (h 0 u rfl)
  obtain⟨b,d,f⟩:=a
  simp[Addr.add]at hs
  subst hs
  refine .inr ⟨b,d,rfl,λi v j=>?_⟩
  obtain⟨m,l,e,c,_,g⟩:=QG (h i v j)
  rw[wFf]at c g
  exact⟨m,l,e,c,g⟩
variable{α:Type}
theorem Ra{p:Nat->α->Prop}:∀{n:Nat},(∀i,i<n->∃x,p i x)->∃l:List α,l.length=n/\∀i (h:i<l.length),p i l[i]
 |0,_=>⟨[],rfl,λi h=>absurd h (Nat.not_lt_zero i)⟩
 |n+1,h=>by
  obtain⟨l,e,d⟩:=Ra (n:=n) (λi a=>h i (by omega))
  obtain⟨x,c⟩:=h n (by omega)
  refine⟨l++[x],by simp[e],λi a=>?_⟩
  by_cases b:i<l.length
  ·rw [List.getElem_append_left b];exact d i b
  obtain rfl:i=n:=by rw[List.length_append,List.length_singleton]at a;omega
  rw[List.getElem_append_right (by omega)];simpa using c
def bOf(x:Int):By:=UInt8.ofNat x.toNat
theorem wNw{x:Int}(h:0<=x/\x<256):((bOf x).toNat:Int)=x:=by
 unfold bOf
 rw[UInt8.toNat_ofNat_of_lt' (by show x.toNat<256;omega)];omega
section
variable{H:Type}{enc:TypeId×Value->H}{W:World}
theorem wHo{d:Nat}{v:Value}{x:DataW H×List MemPlace}(h:DataW.trod enc prog W 0 (λ_=>true) true d 30 [v]=some x):∃xs:List By,BS (Hm W) v xs:=by
 rcases open_ints Tryz.underlying30 Tryz.underlying5 (by kernel_rfl) h with⟨k,_⟩|⟨a,len,l,zs,k,_,g,_,c,_,b,e⟩
 ·cases k;exact⟨[],BS.nil⟩
 cases k
 simp only[if_true]at c
 have m:∀n∈zs,((bOf n).toNat:Int)=n:=λn o=>wNw (Zx (e n o))
 have j:((zs.take len).map bOf).length=len:=by rw[length_map,List.length_take];omega
 refine⟨(zs.take len).map bOf,some a,l,by rw[j],by rw[j];exact g,Ns λi u f=>?_⟩
 have r:i<len:=by
  have:=(List.getElem?_eq_some_iff.1 f).1
  rw[Af,j]at this;exact this
 rw[b i (by omega)]
 simp only[Ab,List.getElem?_map,List.getElem?_take,r,if_true,List.getElem?_eq_getElem (show i<zs.length by omega),Option.map_some,Option.some.injEq]at f
 rw[<-f,m _ (List.getElem_mem _)]
 simp[List.getD,List.getElem?_eq_getElem (show i<zs.length by omega)]
end
end Go.Proofs.YtdahhoicackcaaaGreat
namespace Go.Proofs.YtdahhoicackcaaaGreat
open Go.Proofs.Tryz
open List (length_nil length_map length replicate)
set_option linter.unusedVariables false
set_option maxRecDepth 8000
set_option linter.unusedSimpArgs false
open Go.ChangeShapes Go.WideShapes Go.ChangeAt Go.RowKit Go.Joins
variable{n:Int}
theorem QM(h:(Lit.int .u32 n).wf=true):0<=n/\n<4294967296:=by
 simp[Lit.wf,IntKind.min,IntKind.max,IntKind.signed,IntKind.bits]at h;omega
section
variable{H:Type}{enc:TypeId×Value->H}{W:World}
set_option maxRecDepth 100000 in
theorem NK{m:Nat}{v:Value}{d:DataW H}{p:List MemPlace}(g:Value.okWide prog W .any m 23 v)(h:DataW.Trod enc prog W 0 (λ_=>true) true 23 v d p):∃(keep:List Bool)(a:Option Addr)(c:Nat),v=.slice a keep.length c/\SM (Hm W) a (Bo keep):=by
 obtain⟨Q,f,l,rfl⟩:=okWide_slice Tryz.underlying23 g
 obtain⟨D,F⟩:=h
 rcases DataW.trod_slice Tryz.underlying23 F with⟨k,_⟩|⟨a,len,O,t,y,n,_,k,_,_,E,_,G,z,_⟩
 ·simp [Value.cells]at k
  obtain⟨rfl,rfl,rfl⟩:=k
  exact⟨[],none,0,rfl,SM.nil⟩
 simp[Value.cells]at k
 obtain⟨rfl,rfl,rfl⟩:=k
 have I:prog.cellsOf 4=1:=by kernel_rfl
 rw[I]at z
 obtain⟨P,s,r⟩:=Ra (p:=λi (b:Bool)=>W.cell? (a.add i)=some (.bool b)) (n:=f) (λi j=>by
  have C:=z i j
  rw[List.getElem?_eq_getElem (by omega),Option.bind_eq_some_iff,Nat.mul_one]at C
  obtain⟨cs,M,L⟩:=C
  obtain⟨_,K,J⟩:=World.cells?_some M
  obtain⟨c,rfl⟩:∃c,cs=[c]:=by
   match cs,K with
   |[c],_=>exact⟨c,rfl⟩
  obtain⟨b,e,_⟩:=DataW.trod_bool Tryz.underlying4 L
  cases e
  have B:=J 0 (by omega)
  have N:(a.add i).add 0=a.add i:=by simp[Addr.add]
  rw[N]at B
  exact⟨b,B⟩)
 refine⟨P,some a,l,by rw[s],Ns λi u o=>?_⟩
 have j:=(List.getElem?_eq_some_iff.1 o).1
 rw[Bo,length_map]at j
 rw[Bo,List.getElem?_map,List.getElem?_eq_getElem j,Option.map_some,Option.some.injEq]at o
 rw[r i j,o]
end
end Go.Proofs.YtdahhoicackcaaaGreat
namespace Go.Proofs.YtdahhoicackcaaaGreat
open Go.Proofs.Tryz
open List (length_nil length_map length replicate)
set_option linter.unusedVariables false
set_option maxRecDepth 8000
set_option linter.unusedSimpArgs false
open Go.ChangeShapes Go.WideShapes Go.ChangeAt Go.RowKit Go.Joins
section
variable{H:Type}{enc:TypeId×Value->H}{W:World}
set_option maxRecDepth 100000 in
theorem Yk{g:Nat}{cs:List Value}{x:DataW H×List MemPlace}(h:DataW.trod enc prog W 0 (λ_=>true) true g 45 cs=some x):∃q:Tp×Sl,cs=wLb q/\BS (Hm W) q.2.v q.1.val/\TpOk q.1:=by
 obtain⟨xs,n,_,rfl,s,e,d⟩:=DataW.trod_struct Tryz.underlying45 h
 rw[show prog.cellsOf 45=8 by kernel_rfl]at s
 have D:prog.cellsOf 5=1:=by kernel_rfl
 have r:prog.cellsOf 33=1:=by kernel_rfl
 have i:prog.cellsOf 43=3:=by kernel_rfl
 have e4:prog.cellsOf 30=1:=by kernel_rfl
 have Z:prog.cellsOf 4=1:=by kernel_rfl
 match cs,s,xs,e with
 |[c0,c1,c2,c3,c4,c5,c6,c7],_,[y0,y1,y2,y3,y4,y5],_=>
  have C:=d 0 _ rfl
  have B:=d 1 _ rfl
  have z:=d 2 _ rfl
  have y:=d 3 _ rfl
  have u:=d 4 _ rfl
  have t:=d 5 _ rfl
  simp only[D,r,i,e4,Z,List.drop_succ_cons,List.drop_zero,List.take_succ_cons,List.take_zero,List.getElem?_cons_zero,List.getElem?_cons_succ]at C B z y u t
  obtain⟨k,P,-,L⟩:=DataW.trod_int Tryz.underlying5 C
  obtain⟨M,r1,-,K⟩:=DataW.trod_int Tryz.underlying33 B
  obtain⟨U,O,-,J⟩:=DataW.trod_int Tryz.underlying33 z
  obtain⟨E,z1,z2,m,_,_,T,S,R⟩:=Go.Deep.trod_struct3 Tryz.underlying43 y
  have o:DataW.trod enc prog W 0 (λ_=>true) true m 5 [c3]=some E:=by simpa [D,i]using T
  have l:DataW.trod enc prog W 0 (λ_=>true) true m 33 [c4]=some z1:=by simpa [r,i]using S
  have j:DataW.trod enc prog W 0 (λ_=>true) true m 33 [c5]=some z2:=by simpa [r,i]using R
  obtain⟨a,Y,-,I⟩:=DataW.trod_int Tryz.underlying5 o
  obtain⟨b,X,-,G⟩:=DataW.trod_int Tryz.underlying33 l
  obtain⟨c,V,-,F⟩:=DataW.trod_int Tryz.underlying33 j
  obtain⟨bs,f⟩:=wHo u
  obtain⟨sl,rfl⟩:=f.sl
  obtain⟨Q,N,_⟩:=DataW.trod_bool Tryz.underlying4 t
  cases P;cases r1;cases O;cases Y;cases X;cases V;cases N
  exact⟨(⟨k,M,U,⟨a,b,c⟩,bs,Q⟩,sl),rfl,f,Zx L,QM K,QM J,Zx I,QM G,QM F⟩
set_option maxRecDepth 100000 in
theorem Jr{C:Nat}{v:Value}{d:DataW H}{p:List MemPlace}(k:Value.okWide prog W .any C 22 v)(h:DataW.Trod enc prog W 0 (λ_=>true) true 22 v d p):∃(ts:List Tp)(a:Option Addr)(c:Nat),v=.slice a ts.length c/\TS (Hm W) a ts/\∀t∈ts,TpOk t:=by
 obtain⟨a0,g,B,rfl⟩:=okWide_slice Tryz.underlying22 k
 obtain⟨L,S⟩:=h
 rcases DataW.trod_slice Tryz.underlying22 S with⟨z,_⟩|⟨a,len,Z,F,G,n,_,z,_,_,Q,_,T,J,_⟩
 ·simp [Value.cells]at z
  obtain⟨rfl,rfl,rfl⟩:=z
  exact⟨[],none,0,rfl,⟨[],SM.nil,rfl,λ_ h=>by cases h⟩,λ_ h=>by cases h⟩
 simp[Value.cells]at z
 obtain⟨rfl,rfl,rfl⟩:=z
 have U:prog.cellsOf 45=8:=by kernel_rfl
 rw[U]at J
 have r:∀(b:Addr)(x y:Nat),(b.add x).add y=b.add (x+y):=λb x y=>by
  obtain⟨bb,N,M⟩:=b
  cases M<;>simp[Addr.add]<;>(try split)<;>(try split)<;>simp_all<;>omega
 obtain⟨D,E,e⟩:=Ra (p:=λi (q:Tp×Sl)=>(∀j u,(wLb q)[j]? =some u->W.cell? (a.add (i*8+j))=some u)/\BS (Hm W) q.2.v q.1.val/\TpOk q.1) (n:=g) (λi f=>by
  have s:=J i f
  rw[List.getElem?_eq_getElem (by omega),Option.bind_eq_some_iff]at s
  obtain⟨cs,Y,X⟩:=s
  obtain⟨_,h4,V⟩:=World.cells?_some Y
  obtain⟨q,rfl,m⟩:=Yk X
  refine⟨q,λj u l=>?_,m⟩
  have R:j<8:=(List.getElem?_eq_some_iff.1 l).1
  have K:=V j R
  rw[r]at K
  rw[K,<-l])
 refine⟨D.map (·.1),some a,B,by rw[length_map,E],⟨D,Ns λi u l=>?_,rfl,λq m=>?_⟩,λt O=>?_⟩
 ·have f:=(List.getElem?_eq_some_iff.1 l).1
  rw[Aj wLb 8 MC]at f
  have I:i / 8<D.length:=by omega
  have o:i=(i / 8)*8+i%8:=by omega
  have P:i%8<8:=by omega
  have s:=Kz wLb 8 MC D (i / 8) (i%8) P
  rw[<-o,l,List.getElem?_eq_getElem I]at s
  have:=(e (i / 8) I).1 (i%8) u s.symm
  rw[<-o]at this;exact this
 ·obtain ⟨i,f,rfl⟩:=List.mem_iff_getElem.1 m
  exact(e i f).2.1
 obtain⟨q,m,rfl⟩:=List.mem_map.1 O
 obtain⟨i,f,rfl⟩:=List.mem_iff_getElem.1 m
 exact(e i f).2.2
end
end Go.Proofs.YtdahhoicackcaaaGreat
namespace Go.Proofs.YtdahhoicackcaaaGreat
open Go.Proofs.Tryz
open List (length_nil length_map length replicate)
set_option linter.unusedVariables false
set_option maxRecDepth 8000
set_option linter.unusedSimpArgs false
open Go.RowKit
def wPg:Value->TypeDesc->Prop
 |.int k _,.int k'=>k=k'
 |.bool _,.bool=>True
 |_,_=>False
variable{P:Program}
theorem FD(d:Nat)(xs:Array Value)(w:World):∀(h:List Field)(ds:List TypeDesc)(vs:List Value)(i:Nat),vs.length=ds.length->
  h.map (fun f => (f.name != "_", f.offset, P.underlying f.type)) = (ds.zipIdx i).map (fun (k, i) => (true, i, some k)) →
  (∀(j:Nat) v k,vs[j]? =some v->ds[j]? =some k->wPg v k)->(∀(j:Nat) v,vs[j]? =some v->xs[i+j]? =some v)->(Op.eqFields (d+1) xs xs h).run P w=.ok true w
 |[],ds,vs,i,m,g,_,_=>by simp[Op.eqFields]
 |f::h,[],vs,i,m,g,_,_=>by simp at g
 |f::h,k::ds,[],i,m,g,_,_=>by simp at m
 |f::h,k::ds,v::vs,i,m,g,F,D=>by
  simp only[List.map_cons,List.zipIdx_cons,List.cons.injEq,Prod.mk.injEq]at g
  obtain⟨⟨H,E,o⟩,e⟩:=g
  have r:=D 0 v rfl
  simp only[Nat.add_zero]at r
  have a:=F 0 v k rfl rfl
  have l : f.name ≠ "_" := by simpa using H
  have C:=FD d xs w h ds vs (i+1) (by simpa using m) e (λj s c t B=>F (j+1) s c (by simpa using t) (by simpa using B))
   (λj s t=>by have:=D (j+1) s (by simpa using t);rwa[show i+(j+1)=i+1+j by omega]at this)
  cases k with
  |int G=>
   cases v with
   |int c n=>
    have z:c=G:=a
    subst z
    have y:(part f.type xs f.offset).run P w=.ok (.int c n) w:=by simp[part,CX o,G3,E,r]
    have u:(Op.equalIn (d+1) f.type (.int c n) (.int c n)).run P w=.ok (n==n) w:=run_equalIn_int w d f.type c c n n o
    unfold Op.eqFields
    simp only[l,ne_eq,not_false_eq_true,if_true,Sem.run_bind,y,Result.andThen_ok,u]
    simp[C]
   |_=>exact a.elim
  |bool=>
   cases v with
   |bool b=>
    have y:(part f.type xs f.offset).run P w=.ok (.bool b) w:=by simp[part,CX o,G3,E,r]
    have u:(Op.equalIn (d+1) f.type (.bool b) (.bool b)).run P w=.ok (b==b) w:=run_equalIn_bool' w d f.type b b o
    unfold Op.eqFields
    simp only[l,ne_eq,not_false_eq_true,if_true,Sem.run_bind,y,Result.andThen_ok,u]
    simp[C]
   |_=>exact a.elim
  |_=>cases v<;>exact a.elim
section
variable{P:Program}{ops:Array Oper}{N:Fs}{F:Fr}{M:Mem}{L:Lc}{o:Oper}
theorem wHc{x y:Operand}{t c:TypeId}{ds:List TypeDesc}{vs:List Value}(r:gd ops F o=some true)(m:o.op=.binOp .neq t x y c)(e:ev F x=some (.agg vs.toArray))(d:ev F y=some (.agg vs.toArray))
  (h : P.underlying t = some (.struct (P.fieldsOf t))) (s : (P.fieldsOf t).toList.map (fun f => (f.name != "_", f.offset, P.underlying f.type)) = ds.zipIdx.map fun (k, i) => (true, i, some k)) (hs : P.stoodInHeld t = false) (a : P.eqGuardType P.depth t = false)
  (n:vs.length=ds.length) (hk:∀(j:Nat) v k,vs[j]? =some v->ds[j]? =some k->wPg v k):QF P ops N F M L o (.bool false):=BG r λz b w _=>by
 have l:=FD (P:=P) 9998 vs.toArray w _ ds vs 0 n s hk (λj v g=>by simpa using g)
 have u:(binOp .neq t (.agg vs.toArray) (.agg vs.toArray)).run P w=.ok (.bool false) w:=by
  rw[run_neq_struct w t,run_equalIn_struct w 9999 t _ _ h hs,l];simp
 simp only[execOp,m,b.ev e,b.ev d]
 simp only[Sem.run_bind,run_eqGuard_agg w _ t x y _ _ a,Result.andThen_ok,u,Sem.run_pure]
end
end Go.Proofs.YtdahhoicackcaaaGreat
