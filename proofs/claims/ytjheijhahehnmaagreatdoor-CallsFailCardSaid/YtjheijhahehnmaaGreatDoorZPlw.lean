/- An item put in, without a program in sight: the law. No statement of the seat is proved here. -/
import Derived.Test.YtjheijhahehnmaaGreatDoorZShp
import Derived.Test.YtjheijhahehnmaaGreatDoorZPut
namespace Go.Proofs.YtjheijhahehnmaaGreatDoor
open List (map_cons sum_cons mem_cons_of_mem length_take getElem_take getElem_mem)
set_option linter.unusedSimpArgs false
set_option linter.unusedVariables false
set_option linter.unusedSectionVars false
set_option maxRecDepth 8000
open Go.RowKit
def BA(s:Sto)(n:Nat):List Int:=match Ak s n with|some (_,ys)=>ys.map (·.ref)|none=>[]
def wS(s:Sto)(S:List Nat)(k:Int):Nat:=(S.map λn=>(BA s n).count k).sum
variable{lv:Int}{n:Nat}{s:Sto}{ys:List It}
theorem CI(h:Ak s n=some (lv,ys)):BA s n=ys.map (·.ref):=by unfold BA;rw[h]
theorem EU(h:Ak s n=none):BA s n=[]:=by unfold BA;rw[h]
theorem wAa{α:Type}{f:α->Nat}:∀{l:List α}{x:α},x∈l->f x<=(l.map f).sum
 |y::l,x,h=>by
  simp only[map_cons,sum_cons];rcases List.mem_cons.1 h with rfl|h
  ·omega
  have:=wAa (f:=f) h;omega
variable{α:Type}{f:α->Nat}{l:List α}
theorem TS{g:α->Nat}(h:∀x∈l,f x=g x):(l.map f).sum=(l.map g).sum:=by rw[List.map_congr_left h]
variable{S:List Nat}
theorem KC{x:It}(b:n∈S)(h:Ak s n=some (lv,ys))(a:x∈ys):0<wS s S x.ref:=by
 have d:=wAa (f:=λn=>(BA s n).count x.ref) b;have c:0<(BA s n).count x.ref:=by rw[CI h];exact List.count_pos_iff.2 (List.mem_map_of_mem a)
 exact Nat.lt_of_lt_of_le c d
structure En(s:Sto)(S:List Nat)(R:List Int):Prop where
 ok:Av s
 nodup:S.Nodup
 enough:∀k:Int,0<k->k<256->wS s S k+R.count k=(s.now.getD k.toNat 0).toNat
 disj:∀n∈S,∀ys,Ak s n=some (0,ys)->∀x∈ys,x.ref≠0->x.ref.toNat∉S
 closed:∀n∈S,∀lv ys,Ak s n=some (lv,ys)->0<lv->∀x∈ys,x.ref.toNat∈S/\∃zs,Ak s x.ref.toNat=some (lv-1,zs)
variable{R:List Int}
theorem En.less{b:List Int}(h:En s S R)(c:∀k,0<k->b.count k=R.count k):En s S b:=
 ⟨h.ok,h.nodup,λk a d=>by have:=h.enough k a d;have:=c k a;omega,h.disj,h.closed⟩
theorem En.perm{a:List Int}(h:En s S R)(b:R.Perm a):En s S a:=h.less λk _=>by rw[b.count_eq]
variable{b:By}
theorem Ga(h:0<b.toNat):¬b=0:=λe=>by rw[e]at h;exact absurd h (by decide)
variable{k:Int}
theorem En.live(h:En s S R)(b:0<k)(a:k<256)(hk:0<wS s S k+R.count k):¬s.now.getD k.toNat 0=0:=by
 have:=h.enough k b a;exact Ga (by omega)
structure ExtB(s t:Sto):Prop where
 nd:∀n r,Ak s n=some r->Ak t n=some r
 live:∀k,¬s.now.getD k 0=0->¬t.now.getD k 0=0
theorem ExtB.refl(s:Sto):ExtB s s:=⟨λ_ _ h=>h,λ_ h=>h⟩
theorem ExtB.trans{t u:Sto}(h:ExtB s t)(k:ExtB t u):ExtB s u:=⟨λn r e=>k.nd n r (h.nd n r e),λn e=>k.live n (h.live n e)⟩
theorem ExtB.shp{t:Sto}(h:ExtB s t):∀{l:Nat}{xs:List It},Shp s l xs->Shp t l xs/\Ax t l xs=Ax s l xs
 |0,xs,b=>⟨λx a=>(b x a).imp id (h.live _),by rw[Cl,Cl]⟩
 |l+1,xs,b=>by
  have c:∀x∈xs,(∃ys,Ak t x.ref.toNat=some ((l:Int),ys)/\ys≠[]/\BC ys=x.key/\Shp t l ys)/\Bc t (l+1) x=Bc s (l+1) x:=λx a=>by
   obtain⟨ys,e,n,m,k⟩:=b x a;obtain⟨i,g⟩:=h.shp k;have d:=h.nd _ _ e;exact⟨⟨ys,d,n,m,i⟩,by rw[Bg d,Bg e,g]⟩
  refine⟨λx a=>(c x a).1,?_⟩;unfold Ax;clear b;induction xs with
  |nil=>rfl
  |cons x xs f=>rw[List.flatMap_cons,List.flatMap_cons,(c x (by simp)).2,f λy j=>c y (by simp[j])]
structure Thin(s t:Sto):Prop where
 waits:t.waits=s.waits
 blocks:t.blocks=s.blocks
 last:t.last=s.last
 now:∀n,(t.now.getD n 0).toNat<=(s.now.getD n 0).toNat
theorem Thin.nd{t:Sto}(h:Thin s t)(a:¬t.now.getD n 0=0):Ak t n=Ak s n:=by
 have c:¬s.now.getD n 0=0:=λe=>by
  have:=h.now n;rw[e]at this;exact a (UInt8.toNat.inj (by have d:(0:By).toNat=0:=rfl;omega))
 have b:seen t n=seen s n:=by unfold seen;rw[h.waits,h.blocks]
 unfold Ak;rw[if_neg a,if_neg c,b]
theorem B7{r:Int×List It}(h:Ak s n=some r):¬s.now.getD n 0=0:=Ub h
variable{xs:List By}
theorem A7{k:Nat}{v:By}(h:k<xs.length):(xs.set k v).getD k 0=v:=by simp[List.getD,h]
theorem Ps(h:¬b=0):(b-1).toNat+1=b.toNat:=by have:=UA h;omega
theorem E0(s:Sto){k:Nat}(hk:k<s.now.length)(h:¬s.now.getD k 0=0):Thin s (AO s k):=⟨rfl,rfl,rfl,λn=>by
 show ((s.now.set k _).getD n 0).toNat<=_
 by_cases e:n=k
 ·subst e;rw[A7 hk];have:=Ps h;omega
 rw[AK e];exact Nat.le_refl _⟩
theorem En.loose(h:En s S (k::R))(hk:8<=k/\k<256)(w:0<wS s S k+R.count k\/k.toNat∉S):Cj s k.toNat=0/\¬s.now.getD k.toNat 0=0/\En (AO s k.toNat) S R:=by
 have M:s.now.length=256:=h.ok.2.1.1;have G:=h.enough k (by omega) hk.2;rw[List.count_cons_self]at G;have o:¬s.now.getD k.toNat 0=0:=Ga (by omega);have d:=E0 s (show k.toNat<s.now.length by omega) o;have E:=Ps o;have c:∀n∈S,Ak (AO s k.toNat) n=Ak s n:=λn b=>by
  by_cases e:n=k.toNat
  ·subst e;refine d.nd ?_;show ¬(s.now.set k.toNat _).getD k.toNat 0=0;rw[A7 (by omega)];rcases w with w|w
   ·exact Ga (by omega)
   exact absurd b w
  unfold Ak;have J:(AO s k.toNat).now.getD n 0=s.now.getD n 0:=by show (s.now.set k.toNat _).getD n 0=_;exact AK e
  have I:seen (AO s k.toNat) n=seen s n:=rfl;rw[J,I]
 refine⟨if_neg o,o,C2 h.ok (by omega),h.nodup,λj H m=>?_,λn b ys C=>h.disj n b ys (by rw[<-c n b];exact C),λn b lv ys i l x u=>?_⟩
 ·have z:=h.enough j H m;have N:wS (AO s k.toNat) S j=wS s S j:=TS λn b=>by unfold BA;rw[c n b]
  show _=((s.now.set k.toNat _).getD j.toNat 0).toNat;by_cases e:j=k
  ·subst e;rw[List.count_cons_self]at z;rw[A7 (by omega)];omega
  rw[AK (by omega)];rw[List.count_cons_of_ne (Ne.symm e)]at z;omega
 have y:=B7 i;have a:Ak s n=some (lv,ys):=by rw[<-d.nd y];exact i
 obtain⟨K,zs,B⟩:=h.closed n b lv ys a l x u;refine⟨K,zs,?_⟩;have g:=Ar a;have L:=g.ref x u;have F:=g.up l x u;have D:=KC b a u;have f:¬(AO s k.toNat).now.getD x.ref.toNat 0=0:=by
  show ¬(s.now.set k.toNat _).getD x.ref.toNat 0=0;by_cases e:x.ref=k
  ·rw [e]at D⊢;rw[A7 (by omega)];exact Ga (by omega)
  rw[AK (by omega)];exact B7 B
 rw[d.nd f];exact B
variable{b:By}
theorem wWj(h:¬b=255):(b+1).toNat=b.toNat+1:=by have:=Y5 h;omega
variable{k:Nat}{s:Sto}
theorem G7(hk:k<s.now.length)(h:¬s.now.getD k 0=255)(n:Nat):((Bb s k).now.getD n 0).toNat=(s.now.getD n 0).toNat+(if n=k then 1 else 0):=by
 show ((s.now.set k _).getD n 0).toNat=_;by_cases e:n=k
 ·subst e;rw[A7 hk,wWj h,if_pos rfl]
 rw[AK e,if_neg e];rfl
theorem LB(h:¬s.now.getD k 0=0):(Bl s k=0/\¬s.now.getD k 0=255)\/(Bl s k=70):=by
 unfold Bl;rw[if_neg h];by_cases a:s.now.getD k 0=255
 ·rw [if_pos a];exact .inr rfl
 rw[if_neg a];exact .inl ⟨rfl,a⟩
theorem JV:∀{xs:List It}{s:Sto},s.now.length=256->(∀x∈xs,x.ref=0\/(8<=x.ref/\x.ref<256/\¬s.now.getD x.ref.toNat 0=0))->(SL s xs=0/\∀k:Nat,0<k->((Am s xs).now.getD k 0).toNat=(s.now.getD k 0).toNat+(xs.map (·.ref)).count (k:Int))\/SL s xs=70
 |[],s,_,_=>.inl ⟨rfl,λk _=>by show _=_+0;rfl⟩
 |x::xs,s,u,j=>by
  have l:Am s (x::xs)=Am (if x.ref=0 then s else Bb s x.ref.toNat) xs:=rfl;rw[SL,l];by_cases f:x.ref=0
  ·rw [if_pos f,if_pos f];rcases JV (xs:=xs) u (λy i=>j y (mem_cons_of_mem _ i))with⟨d,n⟩|d
   ·refine .inl ⟨d,λk m=>?_⟩;rw[n k m,map_cons,List.count_cons_of_ne (by omega)]
   exact .inr d
  obtain⟨D,w,z⟩:=(j x (by simp)).resolve_left f;rw[if_neg f,if_neg f];rcases LB z with⟨B,h⟩|g
  ·rw [if_pos B];have o:=G7 (s:=s) (k:=x.ref.toNat) (by omega) h;rcases JV (xs:=xs) (s:=Bb s x.ref.toNat) (by rw[Ha];exact u) (λy i=>(j y (by simp[i])).imp id λ⟨a,b,c⟩=>⟨a,b,Ga (by
    have:=o y.ref.toNat;have C:(s.now.getD y.ref.toNat 0).toNat≠0:=λe=>c (UInt8.toNat.inj e);omega)⟩)with⟨d,n⟩|d
   ·refine .inl ⟨d,λk m=>?_⟩;rw[n k m,o k,map_cons,List.count_cons];have:(x.ref==(k:Int))=decide (k=x.ref.toNat):=by
     by_cases e:k=x.ref.toNat
     ·rw [decide_eq_true e];simp;omega
     rw[decide_eq_false e];simp;omega
    rw[this];by_cases e:k=x.ref.toNat
    ·rw [if_pos e,decide_eq_true e];simp;omega
    rw[if_neg e,decide_eq_false e];simp
   exact .inr d
  rw[if_neg (by rw[g];decide),g];exact .inr rfl
theorem wFu(h:BH s<256):Jk s (BH s):=by
 have:∀(f k:Nat),Jm s f k<k+f->Jk s (Jm s f k):=by
  intro f;induction f with
  |zero=>intro k h;rw[Jm]at h;omega
  |succ f a=>
   intro k h
   rw[Jm]at h⊢
   split
   ·assumption
   rename_i b
   rw[if_neg b]at h
   exact a (k+1) (by omega)
 exact this 248 8 h
variable{lv:Int}{xs:List It}
theorem wMs(f:Av s)(y:CD lv xs=true)(hk:∀x∈xs,Bj x.key)(c:∀x∈xs,x.ref≠0->¬s.now.getD x.ref.toNat 0=0)(R:KS s lv xs=0):
  (8<=BH (Am s xs)/\BH (Am s xs)<256)/\s.now.getD (BH (Am s xs)) 0=0/\(xs.map (·.ref)).count ((BH (Am s xs):Nat):Int)=0/\(∀n,Ak (EM s lv xs) n=if n=BH (Am s xs)then some (lv,xs)else Ak s n)/\
   ∀k:Nat,0<k->k≠BH (Am s xs)->((EM s lv xs).now.getD k 0).toNat=(s.now.getD k 0).toNat+(xs.map (·.ref)).count (k:Int):=by
 have l:=Hh R f.1.2.1;have E:=NdOk.of y;have K:s.now.length=256:=f.2.1.1;have u:∀x∈xs,x.ref=0\/(8<=x.ref/\x.ref<256/\¬s.now.getD x.ref.toNat 0=0):=λx o=>by
  by_cases C:x.ref=0
  ·exact .inl C
  have:=E.ref x o;exact .inr ⟨by omega,by omega,c x o C⟩
 have m:∀k:Nat,0<k->((Am s xs).now.getD k 0).toNat=(s.now.getD k 0).toNat+(xs.map (·.ref)).count (k:Int):=by
  rcases JV K u with⟨_,h⟩|h
  ·exact h
  rw[l.2.1]at h;cases h
 obtain⟨a,B⟩:∃a,a=BH (Am s xs):=⟨_,rfl⟩;have S:8<=a:=by rw[B];exact Mu _ _ _
 have z:a<256:=by rw[B];exact l.2.2.1
 have d:=(wFu (s:=Am s xs) l.2.2.1).1;rw[<-B]at d⊢;have G:=m a (by omega);rw[d]at G;have T:(0:By).toNat=0:=rfl;have P:s.now.getD a 0=0:=UInt8.toNat.inj (by omega);have H:(xs.map (·.ref)).count (a:Int)=0:=by omega
 obtain⟨O,N,V,M⟩:=CH s xs;have g:EM s lv xs=MM (Am s xs) a (Ks lv xs):=by unfold EM;rw[<-B]
 have i:∀k,k≠a->(EM s lv xs).now.getD k 0=(Am s xs).now.getD k 0:=λk hk=>by
  rw[g];show ((Am s xs).now.set a 1).getD k 0=_;exact AK hk
 refine⟨⟨S,z⟩,P,H,λn=>?_,λk C hk=>by rw[i k hk];exact m k C⟩;by_cases e:n=a
 ·subst e;rw[if_pos rfl];unfold Ak;rw[if_neg (by rw[g];show ¬((Am s xs).now.set n 1).getD n 0=0;rw[A7 (by omega)];decide)];have D:seen (EM s lv xs) n=Ks lv xs:=by
   rw[g];unfold seen;show (match (((Am s xs).waits++[((n:Int),Ks lv xs)]).reverse.find? λw=>w.1==(n:Int))with|some w=>w.2|none=>_)=_;rw[List.reverse_append,List.reverse_singleton,List.singleton_append,List.find?_cons_of_pos (by simp)]
  rw[D];exact wUh y hk
 rw[if_neg e];have D:seen (EM s lv xs) n=seen s n:=by
  rw[g];unfold seen;show (match (((Am s xs).waits++[((a:Int),Ks lv xs)]).reverse.find? λw=>w.1==(n:Int))with|some w=>w.2|none=>(Am s xs).blocks.getD n [])=_;rw[List.reverse_append,List.reverse_singleton,List.singleton_append,List.find?_cons_of_neg (by simp;omega),N,M];rfl
 unfold Ak;rw[D,i n e];by_cases F:n=0
 ·subst F;have z1:(Am s xs).now.getD 0 0=0:=by
   have I:=(SK f.2.1 (λx o=>(u x o).imp id λh=>⟨h.1,h.2.1⟩)).2;have J:(Am s xs).now.length=256:=O.trans K;have:=List.all_eq_true.1 I ((Am s xs).now.getD 0 0) (by
    rw[show (Am s xs).now.getD 0 0=((Am s xs).now.take 8)[0]'(by rw[length_take];omega)by rw[getElem_take,Ej (by omega)]];exact getElem_mem _)
   simpa using this
  have z2:s.now.getD 0 0=0:=by
   have I:=f.2.1.2;have:=List.all_eq_true.1 I (s.now.getD 0 0) (by
    rw[show s.now.getD 0 0=(s.now.take 8)[0]'(by rw[length_take];omega)by rw[getElem_take,Ej (by omega)]];exact getElem_mem _)
   simpa using this
  rw[z1,z2]
 have:=m n (by omega);by_cases b:s.now.getD n 0=0
 ·have L:(xs.map (·.ref)).count (n:Int)=0:=by
   rw[List.count_eq_zero];intro Q;obtain⟨x,o,U⟩:=List.mem_map.1 Q;have:=c x o (by omega);rw[U,Int.toNat_natCast]at this;exact this b
  have j:(Am s xs).now.getD n 0=0:=UInt8.toNat.inj (by rw[b]at this;omega);rw[if_pos j,if_pos b]
 have j:¬(Am s xs).now.getD n 0=0:=Ga (by
  have:(s.now.getD n 0).toNat≠0:=λe=>b (UInt8.toNat.inj e);omega)
 rw[if_neg j,if_neg b]
def Apa(s:Sto)(S S':List Nat):Prop:=∀n,¬s.now.getD n 0=0->n∉S->n∉S'
def Sub(s:Sto)(S S':List Nat):Prop:=∀n∈S,Ak s n≠none->n∈S'
variable{R:List Int}{S:List Nat}
theorem En.make(h:En s S R)(P:lv=0->∀x∈xs,x.ref≠0->x.ref.toNat∉S)(E:CD lv xs=true)(hk:∀x∈xs,Bj x.key)(N:0<lv->∀x∈xs,x.ref.toNat∈S/\∃zs,Ak s x.ref.toNat=some (lv-1,zs))(j:∀x∈xs,x.ref≠0->¬s.now.getD x.ref.toNat 0=0)(W:KS s lv xs=0):
  ∃K,En (EM s lv xs) K (((BH (Am s xs):Nat):Int)::R)/\BH (Am s xs)∈K/\Sub s S K/\ExtB s (EM s lv xs)/\Ak (EM s lv xs) (BH (Am s xs))=some (lv,xs)/\(8<=BH (Am s xs)/\BH (Am s xs)<256)/\Apa s S K:=by
 obtain⟨hr,C,aa,g,y⟩:=wMs h.ok E hk j W;have F:=Hh W h.ok.1.2.1;generalize X:BH (Am s xs)=a at *;have hl:s.now.length=256:=h.ok.2.1.1;have b:Ak s a=none:=by unfold Ak;rw[if_pos C]
 have l:ExtB s (EM s lv xs):=by
  refine⟨λn r i=>?_,λk o=>?_⟩
  ·rw [g n,if_neg (λe=>by rw[e,b]at i;cases i)];exact i
  have Q:k≠a:=λe=>by rw[e]at o;exact o C
  by_cases T:k=0
  ·subst T;have h9:=h.ok.2.1.2;have:=List.all_eq_true.1 h9 (s.now.getD 0 0) (by
    rw[show s.now.getD 0 0=(s.now.take 8)[0]'(by rw[length_take];omega)by rw[getElem_take,Ej (by omega)]];exact getElem_mem _)
   exact absurd (by simpa using this) o
  have:=y k (by omega) Q;have:(s.now.getD k 0).toNat≠0:=λe=>o (UInt8.toNat.inj e);exact Ga (by omega)
 have H:Ak (EM s lv xs) a=some (lv,xs):=by rw[g a,if_pos rfl]
 have w:∀{x:Int},x≠0->¬s.now.getD x.toNat 0=0->x.toNat∉S->x.toNat∉a::S.filter (· ≠a):=λ{x} d D M z=>by
  rcases List.mem_cons.1 z with e|z
  ·rw [e]at D;exact D C
  exact M (List.mem_filter.1 z).1
 refine⟨a::S.filter (· ≠a),⟨Jc h.ok E (by rw[X];exact F.2.2.1) F.2.2.2,List.nodup_cons.2 ⟨by simp,h.nodup.filter _⟩,λk h0 I=>?_,λn i ys c x u d=>?_,λn i L ys c G x u=>?_⟩,by simp,λn i f=>?_,l,H,hr,λn h1 h2 z=>(List.mem_cons.1 z).elim (λe=>h1 (by rw[e];exact C)) λz=>h2 (List.mem_filter.1 z).1⟩
 ·have e1:wS (EM s lv xs) (a::S.filter (· ≠a)) k=(xs.map (·.ref)).count k+wS s S k:=by
   show ((a::S.filter (· ≠a)).map λn=>(BA (EM s lv xs) n).count k).sum=_;rw[map_cons,sum_cons,CI H];have J:((S.filter (· ≠a)).map λn=>(BA (EM s lv xs) n).count k).sum=((S.filter (· ≠a)).map λn=>(BA s n).count k).sum:=TS λn i=>by
    have O:n≠a:=by simpa using (List.mem_filter.1 i).2
    unfold BA;rw[g n,if_neg O]
   have Y:∀S:List Nat,((S.filter (· ≠a)).map λn=>(BA s n).count k).sum=(S.map λn=>(BA s n).count k).sum:=λS=>by
    induction S with
    |nil=>rfl
    |cons n S V=>
     by_cases e:n=a
     ·rw [List.filter_cons_of_neg (by simp[e]),V,map_cons,sum_cons,e,EU b];simp
     rw[List.filter_cons_of_pos (by simp[e]),map_cons,sum_cons,V,map_cons,sum_cons]
   have Y:=Y S;unfold wS;omega
  have e4:=h.enough k h0 I;by_cases e:k=(a:Int)
  ·subst e;rw[Int.toNat_natCast,C]at e4;have ac:(0:By).toNat=0:=rfl;rw[List.count_cons_self,Int.toNat_natCast];have:(EM s lv xs).now.getD a 0=1:=by
    show ((Am s xs).now.set (BH (Am s xs)) 1).getD a 0=1;rw[X];exact A7 (by rw[(CH s xs).1];omega)
   rw[this];have ab:(1:By).toNat=1:=rfl;omega
  rw[List.count_cons_of_ne (Ne.symm e),y k.toNat (by omega) (by omega),show ((k.toNat:Nat):Int)=k by omega];omega
 ·rw [g n]at c;by_cases e:n=a
  ·rw [if_pos e]at c;cases c;exact w d (j x u d) (P rfl x u d)
  rw[if_neg e]at c;have m:n∈S:=(List.mem_cons.1 i).elim (λh=>absurd h e) λh=>(List.mem_filter.1 h).1;have Z:=(Ar c).ref x u;exact w d (h.live (by omega) (by omega) (by have:=KC m c u;omega)) (h.disj n m ys c x u d)
 ·rw [g n]at c;by_cases e:n=a
  ·rw [if_pos e]at c;cases c;obtain⟨U,zs,B⟩:=N G x u;have f:x.ref.toNat≠a:=λJ=>by rw[J,b]at B;cases B
   exact⟨mem_cons_of_mem _ (List.mem_filter.2 ⟨U,by simpa using f⟩),zs,l.nd _ _ B⟩
  rw[if_neg e]at c;have m:n∈S:=(List.mem_cons.1 i).elim (λh=>absurd h e) λh=>(List.mem_filter.1 h).1;obtain⟨U,zs,B⟩:=h.closed n m L ys c G x u;have f:x.ref.toNat≠a:=λJ=>by rw[J,b]at B;cases B
  exact⟨mem_cons_of_mem _ (List.mem_filter.2 ⟨U,by simpa using f⟩),zs,l.nd _ _ B⟩
 exact mem_cons_of_mem _ (List.mem_filter.2 ⟨i,by
  have:n≠a:=λe=>by rw[e]at f;exact f b
  simpa using this⟩)
theorem wBe(c:Av s)(b:CD lv xs=true)(a:∀x∈xs,x.ref≠0->¬s.now.getD x.ref.toNat 0=0):KS s lv xs=0\/KS s lv xs=9\/KS s lv xs=70:=by
 have d:=NdOk.of b;unfold KS;rw[if_pos b];rcases JV (xs:=xs) c.2.1.1 (λx e=>by
  by_cases f:x.ref=0
  ·exact .inl f
  have:=d.ref x e;exact .inr ⟨by omega,by omega,a x e f⟩)with⟨h,_⟩|h
 ·rw [if_pos h];split
  ·exact .inr (.inl rfl)
  exact .inl rfl
 rw[if_neg (by rw[h];decide),h];exact .inr (.inr rfl)
theorem Apa.refl(s:Sto)(S:List Nat):Apa s S S:=λ_ _ h=>h
theorem Apa.trans{t:Sto}{c a:List Nat}(h:Apa s S c)(d:ExtB s t)(k:Apa t c a):Apa s S a:=λn b e=>k n (d.live n b) (h n b e)
theorem Sub.trans{t:Sto}{d b:List Nat}(h:Sub s S d)(f:ExtB s t)(k:Sub t d b):Sub s S b:=λn e a=>k n (h n e a) (by
 cases c:Ak s n with
 |none=>exact absurd c a
 |some r=>rw[f.nd _ _ c];simp)
theorem wTv{k:Ky}:∀(p:Option Ky),(∀q,p=some q->Ap q k=true)->(match p with|none=>true|some q=>Ap q k)=true
 |none,_=>rfl
 |some q,h=>h q rfl
theorem QU{ab:Bool}:∀{xs:List It}{p:Option Ky},(∀x∈xs,BB x=false/\(ab=true->x.ref≠0/\x.val=[]))->Srt xs->(∀q,p=some q->∀x∈xs,Ap q x.key=true)->BQ ab p xs=true
 |[],_,_,_,_=>rfl
 |x::xs,p,h,hs,hp=>by
  have h2:=List.pairwise_cons.1 hs;obtain⟨h3,h4⟩:=h x (by simp);have ih:=QU (ab:=ab) (xs:=xs) (p:=some x.key) (λy hy=>h y (mem_cons_of_mem _ hy)) h2.2 (λq e y hy=>by cases e;exact h2.1 y hy);have hk:=wTv (k:=x.key) p (λq e=>hp q e x (by simp));have ha:(!ab||(x.ref != 0&&x.val.length==0))=true:=by
   cases ab with
   |false=>rfl
   |true=>obtain⟨a,b⟩:=h4 rfl;simp[a,b]
  unfold BQ;rw[Bool.and_eq_true,Bool.and_eq_true,Bool.and_eq_true];exact⟨⟨⟨by rw[h3];rfl,hk⟩,ha⟩,ih⟩
variable{i j:Nat}{xs:List It}
theorem PZ(h:Srt xs)(c:i<xs.length)(b:j<xs.length)(a:i<j):Ap xs[i].key xs[j].key=true:=List.pairwise_iff_getElem.1 h i j c b a
variable{k:Nat}{α:Type}
theorem Ge{xs:List α}{z:α}(h:z∈xs.drop k):∃j,∃b:j<xs.length,k<=j/\xs[j]=z:=by
 obtain⟨i,a,e⟩:=List.getElem_of_mem h;rw[List.length_drop]at a;exact⟨k+i,by omega,by omega,by rw[<-e,List.getElem_drop]⟩
theorem wSs{xs:List α}(a:j<xs.length)(h:j<k):xs[j]∈xs.take k:=by
 have:j<(xs.take k).length:=by rw[length_take];omega
 have e:(xs.take k)[j]=xs[j]:=getElem_take;rw[<-e];exact getElem_mem this
theorem PG{xs:List α}(a:j<xs.length)(h:k<=j):xs[j]∈xs.drop k:=by
 have:j-k<(xs.drop k).length:=by rw[List.length_drop];omega
 have e:(xs.drop k)[j-k]=xs[j]:=by rw[List.getElem_drop];congr 1;omega
 rw[<-e];exact getElem_mem this
theorem QV{q:Ky}(h:FQ xs q=true):∃a:place xs q<xs.length,xs[place xs q].key=q:=by
 have a:=Fo h;refine⟨a,?_⟩;unfold FQ at h;have:=of_decide_eq_true h;rw[List.getElem?_eq_getElem a]at this;exact Option.some.inj this
theorem wVa{q:Ky}(h:FQ xs q=false)(a:place xs q<xs.length):xs[place xs q].key≠q:=λe=>by
 unfold FQ at h
 have:=of_decide_eq_false h
 rw[List.getElem?_eq_getElem a]at this
 exact this (by rw[Option.map_some,e])
theorem wJt{q:Ky}(hs:Srt xs)(a:BO xs q<xs.length)(b:0<BO xs q):MR xs[BO xs q].key q:=by
 unfold BO at a b⊢;by_cases h:FQ xs q=true
 ·simp only[h,if_true]at a⊢;obtain⟨_,e⟩:=QV h;rw[e];exact FN _
 simp only[h,if_false,Bool.false_eq_true]at a b⊢;exact KV ((Dl hs).1 _ (wSs a (by omega)))
theorem wJu{q:Ky}(hs:Srt xs):∀z∈xs.drop (BO xs q+1),Ap q z.key=true:=λz k=>by
 obtain⟨j,c,a,rfl⟩:=Ge k
 unfold BO at a
 by_cases h:FQ xs q=true
 ·simp only[h,if_true]at a
  obtain⟨l,e⟩:=QV h
  have:=PZ hs l c (by omega)
  rwa[e]at this
 simp only[h,if_false,Bool.false_eq_true]at a
 have f:MR q xs[j].key:=(Dl hs).2 _ (PG c (by omega))
 rcases Tb f with e|e
 ·exfalso
  have b:place xs q<xs.length:=by omega
  by_cases d:j=place xs q
  ·subst d
   exact wVa (by simpa using h) c e.symm
  have i:=PZ hs b c (by omega)
  rw[<-e]at i
  have g:=(Dl (q:=q) hs).2 _ (PG b (Nat.le_refl _))
  rw[i]at g;cases g
 exact e
variable{l:Nat}{s:Sto}
theorem wMa{z:It}(h:Shp s l [z])(hs:Srt (Bc s l z)):∀y∈Bc s l z,MR z.key y.key:=λy a=>by
 obtain⟨d,r,c,b⟩:=Qq h
 rw[c]at a hs
 rw[<-b]
 rcases List.mem_cons.1 a with rfl|a
 ·exact FN _
 exact KV ((List.pairwise_cons.1 hs).1 y a)
theorem ER{p:Nat}(a:p<xs.length):xs=xs.take p++[xs[p]]++xs.drop (p+1):=by
 rw[List.append_assoc,List.singleton_append,<-List.drop_eq_getElem_cons a,List.take_append_drop]
variable{lv:Int}
theorem FK(h:Ak s k=some (lv,xs)):∀y∈xs,BB y=false/\Bj y.key/\(0<lv->y.ref≠0/\y.val=[]):=λy d=>by
 have c:=Ar h
 obtain⟨a,b⟩:=B5 c.ok y d
 exact⟨a,Jb h y d,λe=>b (by simpa using e)⟩
variable{y:It}
theorem XX(h:y.val=[]/\(8<=y.ref/\y.ref<256)):BB y=false:=by
 unfold BB;rw[decide_eq_false];rw[h.1];simp;omega
end Go.Proofs.YtjheijhahehnmaaGreatDoor
