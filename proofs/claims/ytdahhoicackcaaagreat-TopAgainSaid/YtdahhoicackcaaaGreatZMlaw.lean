/- Plain laws of opened disks: what is committed is found; what is not counted changes nothing. No statement of the seat is proved here. -/
import Derived.Test.YtdahhoicackcaaaGreatZEn
import Derived.Test.YtdahhoicackcaaaGreatZHn
import Derived.Test.YtdahhoicackcaaaGreatZTry
import Derived.Test.YtdahhoicackcaaaGreatZFind
import Derived.Test.YtdahhoicackcaaaGreatZRfind
namespace Go.Proofs.YtdahhoicackcaaaGreat
open Go.Proofs.Tryz
open List (mem_cons_of_mem map_cons length_take getElem_take getElem_mem sum_cons length_cons append_nil take_append_drop mem_cons not_mem_nil length_drop getD)
set_option linter.unusedSimpArgs false
set_option linter.unusedVariables false
set_option linter.unusedSectionVars false
open Go.RowKit
set_option maxRecDepth 8000
variable{b:By}
theorem wKt(h:¬b=255):(b+1).toNat=b.toNat+1:=by have:=Vy h;omega
variable{k:Nat}{s:Sto}
theorem Gu(hk:k<s.now.length)(h:¬s.now.getD k 0=255)(n:Nat):((AQ s k).now.getD n 0).toNat=(s.now.getD n 0).toNat+(if n=k then 1 else 0):=by
 show ((s.now.set k _).getD n 0).toNat=_
 by_cases e:n=k
 ·subst e;rw[AU hk,wKt h,if_pos rfl]
 rw[Az e,if_neg e];rfl
theorem J7(h:¬s.now.getD k 0=0):(shareE s k=0/\¬s.now.getD k 0=255)\/(shareE s k=70):=by
 unfold shareE;rw[if_neg h]
 by_cases a:s.now.getD k 0=255
 ·rw [if_pos a];exact .inr rfl
 rw[if_neg a];exact .inl ⟨rfl,a⟩
theorem HQ:∀{xs:List It}{s:Sto},s.now.length=256->(∀x∈xs,x.ref=0\/(8<=x.ref/\x.ref<256/\¬s.now.getD x.ref.toNat 0=0))->(shE s xs=0/\∀k:Nat,0<k->((Ag s xs).now.getD k 0).toNat=(s.now.getD k 0).toNat+(xs.map (·.ref)).count (k:Int))\/shE s xs=70
 |[],s,_,_=>.inl ⟨rfl,λk _=>by show _=_+0;rfl⟩
 |x::xs,s,r,j=>by
  have l:Ag s (x::xs)=Ag (if x.ref=0 then s else AQ s x.ref.toNat) xs:=rfl
  rw[shE,l]
  by_cases f:x.ref=0
  ·rw [if_pos f,if_pos f]
   rcases HQ (xs:=xs) r (λy i=>j y (mem_cons_of_mem _ i))with⟨d,n⟩|d
   ·refine .inl ⟨d,λk m=>?_⟩
    rw[n k m,map_cons,List.count_cons_of_ne (by omega)]
   exact .inr d
  obtain⟨C,t,u⟩:=(j x (by simp)).resolve_left f
  rw[if_neg f,if_neg f]
  rcases J7 u with⟨z,h⟩|g
  ·rw [if_pos z]
   have o:=Gu (s:=s) (k:=x.ref.toNat) (by omega) h
   rcases HQ (xs:=xs) (s:=AQ s x.ref.toNat) (by rw[Gv];exact r) (λy i=>(j y (by simp[i])).imp id λ⟨a,b,c⟩=>⟨a,b,FG (by
    have:=o y.ref.toNat
    have B:(s.now.getD y.ref.toNat 0).toNat≠0:=λe=>c (UInt8.toNat.inj e)
    omega)⟩)with⟨d,n⟩|d
   ·refine .inl ⟨d,λk m=>?_⟩
    rw[n k m,o k,map_cons,List.count_cons]
    have:(x.ref==(k:Int))=decide (k=x.ref.toNat):=by
     by_cases e:k=x.ref.toNat
     ·rw [decide_eq_true e];simp;omega
     rw[decide_eq_false e];simp;omega
    rw[this]
    by_cases e:k=x.ref.toNat
    ·rw [if_pos e,decide_eq_true e];simp;omega
    rw[if_neg e,decide_eq_false e];simp
   exact .inr d
  rw[if_neg (by rw[g];decide),g];exact .inr rfl
theorem Ys(h:mkAt s<256):Fm s (mkAt s):=by
 have:∀(f k:Nat),frAt s f k<k+f->Fm s (frAt s f k):=by
  intro f
  induction f with
  |zero=>intro k h;rw[frAt]at h;omega
  |succ f a=>
   intro k h
   rw[frAt]at h⊢
   split
   ·assumption
   rename_i b
   rw[if_neg b]at h
   exact a (k+1) (by omega)
 exact this 248 8 h
variable{lv:Int}{xs:List It}
theorem wBe(f:Aq s)(t:Cw lv xs=true)(hk:∀x∈xs,BP x.key)(c:∀x∈xs,x.ref≠0->¬s.now.getD x.ref.toNat 0=0)(P:mkE s lv xs=0):
  (8<=mkAt (Ag s xs)/\mkAt (Ag s xs)<256)/\s.now.getD (mkAt (Ag s xs)) 0=0/\(xs.map (·.ref)).count ((mkAt (Ag s xs):Nat):Int)=0/\(∀n,Ai (mkS s lv xs) n=if n=mkAt (Ag s xs)then some (lv,xs)else Ai s n)/\
   ∀k:Nat,0<k->k≠mkAt (Ag s xs)->((mkS s lv xs).now.getD k 0).toNat=(s.now.getD k 0).toNat+(xs.map (·.ref)).count (k:Int):=by
 have l:=GE P f.1.2.1
 have C:=NdOk.of t
 have I:s.now.length=256:=f.2.1.1
 have r:∀x∈xs,x.ref=0\/(8<=x.ref/\x.ref<256/\¬s.now.getD x.ref.toNat 0=0):=λx o=>by
  by_cases z:x.ref=0
  ·exact .inl z
  have:=C.ref x o;exact .inr ⟨by omega,by omega,c x o z⟩
 have m:∀k:Nat,0<k->((Ag s xs).now.getD k 0).toNat=(s.now.getD k 0).toNat+(xs.map (·.ref)).count (k:Int):=by
  rcases HQ I r with⟨_,h⟩|h
  ·exact h
  rw[l.2.1]at h;cases h
 obtain⟨a,y⟩:∃a,a=mkAt (Ag s xs):=⟨_,rfl⟩
 have Q:8<=a:=by rw[y];exact H5 _ _ _
 have u:a<256:=by rw[y];exact l.2.2.1
 have d:=(Ys (s:=Ag s xs) l.2.2.1).1
 rw[<-y]at d⊢
 have E:=m a (by omega)
 rw[d]at E
 have R:(0:By).toNat=0:=rfl
 have N:s.now.getD a 0=0:=UInt8.toNat.inj (by omega)
 have F:(xs.map (·.ref)).count (a:Int)=0:=by omega
 obtain⟨M,L,T,K⟩:=CB s xs
 have g:mkS s lv xs=Jc (Ag s xs) a (Je lv xs):=by unfold mkS;rw[<-y]
 have i:∀k,k≠a->(mkS s lv xs).now.getD k 0=(Ag s xs).now.getD k 0:=λk hk=>by
  rw[g];show ((Ag s xs).now.set a 1).getD k 0=_;exact Az hk
 refine⟨⟨Q,u⟩,N,F,λn=>?_,λk z hk=>by rw[i k hk];exact m k z⟩
 by_cases e:n=a
 ·subst e
  rw[if_pos rfl]
  unfold Ai
  rw[if_neg (by rw[g];show ¬((Ag s xs).now.set n 1).getD n 0=0;rw[AU (by omega)];decide)]
  have B:seen (mkS s lv xs) n=Je lv xs:=by
   rw[g];unfold seen
   show (match (((Ag s xs).waits++[((n:Int),Je lv xs)]).reverse.find? λw=>w.1==(n:Int))with|some w=>w.2|none=>_)=_
   rw[List.reverse_append,List.reverse_singleton,List.singleton_append,List.find?_cons_of_pos (by simp)]
  rw[B];exact wHs t hk
 rw[if_neg e]
 have B:seen (mkS s lv xs) n=seen s n:=by
  rw[g];unfold seen
  show (match (((Ag s xs).waits++[((a:Int),Je lv xs)]).reverse.find? λw=>w.1==(n:Int))with|some w=>w.2|none=>(Ag s xs).blocks.getD n [])=_
  rw[List.reverse_append,List.reverse_singleton,List.singleton_append,List.find?_cons_of_neg (by simp;omega),L,K]
  rfl
 unfold Ai
 rw[B,i n e]
 by_cases D:n=0
 ·subst D
  have z1:(Ag s xs).now.getD 0 0=0:=by
   have G:=(P1 f.2.1 (λx o=>(r x o).imp id λh=>⟨h.1,h.2.1⟩)).2
   have H:(Ag s xs).now.length=256:=M.trans I
   have:=List.all_eq_true.1 G ((Ag s xs).now.getD 0 0) (by
    rw[show (Ag s xs).now.getD 0 0=((Ag s xs).now.take 8)[0]'(by rw[length_take];omega)by rw[getElem_take,Dy (by omega)]]
    exact getElem_mem _)
   simpa using this
  have z2:s.now.getD 0 0=0:=by
   have G:=f.2.1.2
   have:=List.all_eq_true.1 G (s.now.getD 0 0) (by
    rw[show s.now.getD 0 0=(s.now.take 8)[0]'(by rw[length_take];omega)by rw[getElem_take,Dy (by omega)]]
    exact getElem_mem _)
   simpa using this
  rw[z1,z2]
 have:=m n (by omega)
 by_cases b:s.now.getD n 0=0
 ·have J:(xs.map (·.ref)).count (n:Int)=0:=by
   rw[List.count_eq_zero]
   intro O
   obtain⟨x,o,S⟩:=List.mem_map.1 O
   have:=c x o (by omega)
   rw[S,Int.toNat_natCast]at this
   exact this b
  have j:(Ag s xs).now.getD n 0=0:=UInt8.toNat.inj (by rw[b]at this;omega)
  rw[if_pos j,if_pos b]
 have j:¬(Ag s xs).now.getD n 0=0:=FG (by
  have:(s.now.getD n 0).toNat≠0:=λe=>b (UInt8.toNat.inj e)
  omega)
 rw[if_neg j,if_neg b]
def Apa(s:Sto)(S S':List Nat):Prop:=∀n,¬s.now.getD n 0=0->n∉S->n∉S'
def Sub(s:Sto)(S S':List Nat):Prop:=∀n∈S,Ai s n≠none->n∈S'
variable{R:List Int}{S:List Nat}
theorem En.make(h:En s S R)(P:lv=0->∀x∈xs,x.ref≠0->x.ref.toNat∉S)(E:Cw lv xs=true)(hk:∀x∈xs,BP x.key)(N:0<lv->∀x∈xs,x.ref.toNat∈S/\∃zs,Ai s x.ref.toNat=some (lv-1,zs))(j:∀x∈xs,x.ref≠0->¬s.now.getD x.ref.toNat 0=0)(W:mkE s lv xs=0):
  ∃S',En (mkS s lv xs) S' (((mkAt (Ag s xs):Nat):Int)::R)/\mkAt (Ag s xs)∈S'/\Sub s S S'/\ExtB s (mkS s lv xs)/\Ai (mkS s lv xs) (mkAt (Ag s xs))=some (lv,xs)/\(8<=mkAt (Ag s xs)/\mkAt (Ag s xs)<256)/\Apa s S S':=by
 obtain⟨hr,C,aa,g,y⟩:=wBe h.ok E hk j W
 have F:=GE W h.ok.1.2.1
 generalize X:mkAt (Ag s xs)=a at *
 have hl:s.now.length=256:=h.ok.2.1.1
 have b:Ai s a=none:=by unfold Ai;rw[if_pos C]
 have l:ExtB s (mkS s lv xs):=by
  refine⟨λn r i=>?_,λk o=>?_⟩
  ·rw [g n,if_neg (λe=>by rw[e,b]at i;cases i)];exact i
  have Q:k≠a:=λe=>by rw[e]at o;exact o C
  by_cases T:k=0
  ·subst T
   have h9:=h.ok.2.1.2
   have:=List.all_eq_true.1 h9 (s.now.getD 0 0) (by
    rw[show s.now.getD 0 0=(s.now.take 8)[0]'(by rw[length_take];omega)by rw[getElem_take,Dy (by omega)]]
    exact getElem_mem _)
   exact absurd (by simpa using this) o
  have:=y k (by omega) Q
  have:(s.now.getD k 0).toNat≠0:=λe=>o (UInt8.toNat.inj e)
  exact FG (by omega)
 have H:Ai (mkS s lv xs) a=some (lv,xs):=by rw[g a,if_pos rfl]
 have u:∀{x:Int},x≠0->¬s.now.getD x.toNat 0=0->x.toNat∉S->x.toNat∉a::S.filter (· ≠a):=λ{x} d D M z=>by
  rcases List.mem_cons.1 z with e|z
  ·rw [e]at D;exact D C
  exact M (List.mem_filter.1 z).1
 refine⟨a::S.filter (· ≠a),⟨Hl h.ok E (by rw[X];exact F.2.2.1) F.2.2.2,List.nodup_cons.2 ⟨by simp,h.nodup.filter _⟩,λk h0 I=>?_,λn i K c x t d=>?_,λn i L K c G x t=>?_⟩,by simp,λn i f=>?_,l,H,hr,λn h1 h2 z=>(List.mem_cons.1 z).elim (λe=>h1 (by rw[e];exact C)) λz=>h2 (List.mem_filter.1 z).1⟩
 ·have e1:wS (mkS s lv xs) (a::S.filter (· ≠a)) k=(xs.map (·.ref)).count k+wS s S k:=by
   show ((a::S.filter (· ≠a)).map λn=>(Be (mkS s lv xs) n).count k).sum=_
   rw[map_cons,sum_cons,CC H]
   have J:((S.filter (· ≠a)).map λn=>(Be (mkS s lv xs) n).count k).sum=((S.filter (· ≠a)).map λn=>(Be s n).count k).sum:=QQ λn i=>by
    have O:n≠a:=by simpa using (List.mem_filter.1 i).2
    unfold Be;rw[g n,if_neg O]
   have Y:∀S:List Nat,((S.filter (· ≠a)).map λn=>(Be s n).count k).sum=(S.map λn=>(Be s n).count k).sum:=λS=>by
    induction S with
    |nil=>rfl
    |cons n S V=>
     by_cases e:n=a
     ·rw [List.filter_cons_of_neg (by simp[e]),V,map_cons,sum_cons,e,EC b];simp
     rw[List.filter_cons_of_pos (by simp[e]),map_cons,sum_cons,V,map_cons,sum_cons]
   have Y:=Y S
   unfold wS
   omega
  have e4:=h.enough k h0 I
  by_cases e:k=(a:Int)
  ·subst e
   rw[Int.toNat_natCast,C]at e4
   have ac:(0:By).toNat=0:=rfl
   rw[List.count_cons_self,Int.toNat_natCast]
   have:(mkS s lv xs).now.getD a 0=1:=by
    show ((Ag s xs).now.set (mkAt (Ag s xs)) 1).getD a 0=1
    rw[X];exact AU (by rw[(CB s xs).1];omega)
   rw[this]
   have ab:(1:By).toNat=1:=rfl
   omega
  rw[List.count_cons_of_ne (Ne.symm e),y k.toNat (by omega) (by omega),show ((k.toNat:Nat):Int)=k by omega]
  omega
 ·rw [g n]at c
  by_cases e:n=a
  ·rw [if_pos e]at c
   cases c
   exact u d (j x t d) (P rfl x t d)
  rw[if_neg e]at c
  have m:n∈S:=(List.mem_cons.1 i).elim (λh=>absurd h e) λh=>(List.mem_filter.1 h).1
  have Z:=(Ar c).ref x t
  exact u d (h.live (by omega) (by omega) (by have:=G5 m c t;omega)) (h.disj n m K c x t d)
 ·rw [g n]at c
  by_cases e:n=a
  ·rw [if_pos e]at c
   cases c
   obtain⟨U,zs,B⟩:=N G x t
   have f:x.ref.toNat≠a:=λJ=>by rw[J,b]at B;cases B
   exact⟨mem_cons_of_mem _ (List.mem_filter.2 ⟨U,by simpa using f⟩),zs,l.nd _ _ B⟩
  rw[if_neg e]at c
  have m:n∈S:=(List.mem_cons.1 i).elim (λh=>absurd h e) λh=>(List.mem_filter.1 h).1
  obtain⟨U,zs,B⟩:=h.closed n m L K c G x t
  have f:x.ref.toNat≠a:=λJ=>by rw[J,b]at B;cases B
  exact⟨mem_cons_of_mem _ (List.mem_filter.2 ⟨U,by simpa using f⟩),zs,l.nd _ _ B⟩
 exact mem_cons_of_mem _ (List.mem_filter.2 ⟨i,by
  have:n≠a:=λe=>by rw[e]at f;exact f b
  simpa using this⟩)
theorem WP(c:Aq s)(b:Cw lv xs=true)(a:∀x∈xs,x.ref≠0->¬s.now.getD x.ref.toNat 0=0):mkE s lv xs=0\/mkE s lv xs=9\/mkE s lv xs=70:=by
 have d:=NdOk.of b
 unfold mkE
 rw[if_pos b]
 rcases HQ (xs:=xs) c.2.1.1 (λx e=>by
  by_cases f:x.ref=0
  ·exact .inl f
  have:=d.ref x e;exact .inr ⟨by omega,by omega,a x e f⟩)with⟨h,_⟩|h
 ·rw [if_pos h];split
  ·exact .inr (.inl rfl)
  exact .inl rfl
 rw[if_neg (by rw[h];decide),h];exact .inr (.inr rfl)
def Made(t:Sto)(S:List Nat)(lv:Int):List It->List (List It)->Prop
 |[],[]=>True
 |y::ys,p::ps=>(Ai t y.ref.toNat=some (lv,p)/\y.ref.toNat∈S/\y.key=Bt p/\y.val=[]/\8<=y.ref/\y.ref<256)/\Made t S lv ys ps
 |_,_=>False
variable{S':List Nat}{t:Sto}
theorem Made.mono(a:ExtB s t)(hs:Sub s S S'):∀{ys:List It}{ps:List (List It)},Made s S lv ys ps->Made t S' lv ys ps
 |[],[],_=>trivial
 |y::ys,p::ps,⟨⟨b,d,c⟩,h⟩=>⟨⟨a.nd _ _ b,hs _ d (by rw[b];simp),c⟩,Made.mono a hs h⟩
theorem Made.len:∀{ys:List It}{ps:List (List It)},Made t S lv ys ps->ys.length=ps.length
 |[],[],_=>rfl
 |y::ys,p::ps,⟨_,h⟩=>by rw[length_cons,length_cons,h.len]
structure Fit(s:Sto)(S:List Nat)(lv:Int)(p:List It):Prop where
 ok:Cw lv p=true
 key:∀x∈p,BP x.key
 up:0<lv->∀x∈p,x.ref.toNat∈S/\∃zs,Ai s x.ref.toNat=some (lv-1,zs)
 live:∀x∈p,x.ref≠0->¬s.now.getD x.ref.toNat 0=0
 leaf:lv=0->∀x∈p,x.ref≠0->x.ref.toNat∉S
theorem Fit.mono{p:List It}(h:Fit s S lv p)(f:ExtB s t)(hs:Sub s S S')(g:Apa s S S'):Fit t S' lv p:=
 ⟨h.ok,h.key,λe x c=>by obtain⟨a,zs,b⟩:=h.up e x c;exact⟨hs _ a (by rw[b];simp),zs,f.nd _ _ b⟩,λx c d=>f.live _ (h.live x c d),λe x c d=>g _ (h.live x c d) (h.leaf e x c d)⟩
theorem Apa.refl(s:Sto)(S:List Nat):Apa s S S:=λ_ _ h=>h
theorem Apa.trans{a:List Nat}(h:Apa s S S')(c:ExtB s t)(k:Apa t S' a):Apa s S a:=λn b d=>k n (c.live n b) (h n b d)
theorem Sub.trans{b:List Nat}(h:Sub s S S')(e:ExtB s t)(k:Sub t S' b):Sub s S b:=λn d a=>k n (h n d a) (by
 cases c:Ai s n with
 |none=>exact absurd c a
 |some r=>rw[e.nd _ _ c];simp)
theorem WO:∀{ps:List (List It)}{s:Sto}{S:List Nat}{R:List Int}{up0:List It},En s S R->(∀p∈ps,Fit s S lv p)->
  (∃e,Mx lv ps s up0=.error e/\(e=9\/e=70))\/∃t S' a,Mx lv ps s up0=.ok (t,up0++a)/\En t S' (a.map (·.ref)++R)/\Sub s S S'/\ExtB s t/\t.waits.length=s.waits.length+ps.length/\Made t S' lv a ps/\Apa s S S'
 |[],s,S,R,up0,h,_=>.inr ⟨s,S,[],by rw[Mx,append_nil],h,λn z _=>z,ExtB.refl s,rfl,trivial,Apa.refl s S⟩
 |p::ps,s,S,R,up0,h,j=>by
  have b:=j p (by simp)
  rw[Mx]
  rcases WP h.ok b.ok b.live with e|e
  ·rw [if_pos e]
   obtain⟨S1,C,B,m,c,l,E,k⟩:=h.make b.leaf b.ok b.key b.up b.live e
   rcases WO (up0:=up0++[PJ s p]) C (λq y=>(j q (mem_cons_of_mem _ y)).mono c m k)with⟨D,f,d⟩|⟨t,S',a,f,d,i,g,u,r,o⟩
   ·exact .inl ⟨D,f,d⟩
   refine .inr ⟨t,S',PJ s p::a,by rw[f,List.append_assoc];rfl,d.perm ?_,m.trans c i,c.trans g,?_,⟨⟨?_,?_,rfl,rfl,?_,?_⟩,r⟩,k.trans c o⟩
   ·exact List.perm_middle
   ·rw [u,Vd,length_cons];omega
   ·show Ai t ((mkAt (Ag s p):Nat):Int).toNat=_
    rw[Int.toNat_natCast];exact g.nd _ _ l
   ·show ((mkAt (Ag s p):Nat):Int).toNat∈S'
    rw[Int.toNat_natCast];exact i _ B (by rw[l];simp)
   ·show (8:Int)<=((mkAt (Ag s p):Nat):Int);omega
   show ((mkAt (Ag s p):Nat):Int)<256;omega
  rw[if_neg (by rcases e with e|e<;>rw[e]<;>decide)]
  exact .inl ⟨_,rfl,e⟩
theorem ExtB.wS_le(h:ExtB s t)(S:List Nat)(k:Int):wS s S k<=wS t S k:=sum_le λn _=>by
 cases a:Ai s n with
 |none=>rw[EC a];exact Nat.zero_le _
 |some r=>obtain⟨lv,b⟩:=r;rw[CC a,CC (h.nd _ _ a)];exact Nat.le_refl _
theorem NW:∀{hs:List It}{s:Sto},En s S (hs.map (·.ref)++R)->(∀y∈hs,y.ref=0\/(8<=y.ref/\y.ref<256/\0<wS s S y.ref))->∃t,Fx hs s=.ok t/\En t S R/\ExtB s t/\t.waits=s.waits
 |[],s,h,_=>⟨s,rfl,h,ExtB.refl s,rfl⟩
 |y::i,s,h,f=>by
  rw[Fx]
  by_cases g:y.ref=0
  ·rw [if_pos g]
   exact NW (h.less λk D=>by rw[map_cons,List.cons_append,List.count_cons_of_ne (by omega)]) λz e=>f z (by simp[e])
  obtain⟨l,d,C⟩:=(f y (by simp)).resolve_left g
  obtain⟨B,E,u⟩:=En.loose (k:=y.ref) (R:=i.map (·.ref)++R) h ⟨l,d⟩ (.inl (by omega))
  have j:=Yu (k:=y.ref) (R:=i.map (·.ref)++R) h ⟨l,d⟩ (by omega)
  rw[if_neg g,if_pos B]
  obtain⟨t,r,o,n,m⟩:=NW u λz e=>(f z (by simp[e])).imp id λ⟨a,b,c⟩=>⟨a,b,Nat.lt_of_lt_of_le c (j.wS_le S _)⟩
  exact⟨t,r,o,j.trans n,m⟩
theorem Tb:∀{ys:List It}{ps:List (List It)},Made t S lv ys ps->∀p∈ps,∀x∈p,0<wS t S x.ref
 |[],[],_,p,a,_,_=>by cases a
 |y::ys,q::ps,⟨⟨d,c,_⟩,h⟩,p,a,x,b=>by
  rcases List.mem_cons.1 a with rfl|a
  ·exact G5 c d b
  exact Tb h p a x b
theorem NJ(l:List It):(A5 l).flatten=l:=by
 unfold A5;split
 ·simp [take_append_drop]
 simp
variable{l:List It}
theorem Zb{held:List It}(h:En s S (held.map (·.ref)++R))(K:∀p∈A5 l,Fit s S lv p)(J:∀y∈held,y.ref=0\/(8<=y.ref/\y.ref<256/\∃x∈l,x.ref=y.ref)):
  (∃e,build s lv l held=.error e/\(e=9\/e=70))\/∃t S' d,build s lv l held=.ok (t,d)/\En t S' (d.map (·.ref)++R)/\Sub s S S'/\ExtB s t/\t.waits.length=s.waits.length+(A5 l).length/\Made t S' lv d (A5 l)/\Apa s S S':=by
 unfold build
 rcases WO (up0:=[]) h K with⟨e,i,g⟩|⟨t,S',c,i,g,F,E,D,m,C⟩
 ·rw [i];exact .inl ⟨e,rfl,g⟩
 rw[i,List.nil_append]
 have f:En t S' (held.map (·.ref)++(c.map (·.ref)++R)):=g.perm (List.perm_append_comm_assoc _ _ _)
 obtain⟨u,B,z,k,r⟩:=NW f λy G=>(J y G).imp id λ⟨a,b,x,o,e⟩=>⟨a,b,by
  rw[<-NJ l]at o
  obtain⟨p,H,j⟩:=List.mem_flatten.1 o
  rw[<-e];exact Tb m p H x j⟩
 refine .inr ⟨u,S',c,?_,z,F,E.trans k,by rw[r];exact D,m.mono k λn I _=>I,C⟩
 show (match Fx held t with|.error e=>_|.ok t2=>_)=_
 rw[B]
set_option maxRecDepth 8000
theorem wHh{k:Ky}:∀(p:Option Ky),(∀q,p=some q->Ap q k=true)->(match p with|none=>true|some q=>Ap q k)=true
 |none,_=>rfl
 |some q,h=>h q rfl
theorem Pb{ab:Bool}:∀{xs:List It}{p:Option Ky},(∀x∈xs,BQ x=false/\(ab=true->x.ref≠0/\x.val=[]))->Srt xs->(∀q,p=some q->∀x∈xs,Ap q x.key=true)->BB ab p xs=true
 |[],_,_,_,_=>rfl
 |x::xs,p,h,hs,hp=>by
  have h2:=List.pairwise_cons.1 hs
  obtain⟨h3,h4⟩:=h x (by simp)
  have ih:=Pb (ab:=ab) (xs:=xs) (p:=some x.key) (λy hy=>h y (mem_cons_of_mem _ hy)) h2.2 (λq e y hy=>by cases e;exact h2.1 y hy)
  have hk:=wHh (k:=x.key) p (λq e=>hp q e x (by simp))
  have ha:(!ab||(x.ref != 0&&x.val.length==0))=true:=by
   cases ab with
   |false=>rfl
   |true=>obtain⟨a,b⟩:=h4 rfl;simp[a,b]
  unfold BB;rw[Bool.and_eq_true,Bool.and_eq_true,Bool.and_eq_true];exact⟨⟨⟨by rw[h3];rfl,hk⟩,ha⟩,ih⟩
variable{S':List Nat}{l:Nat}{t:Sto}
theorem Tc{u:Sto}(g:ExtB t u):∀{up:List It}{ps:List (List It)},Made u S' (l:Int) up ps->(∀p∈ps,p≠[]/\Shp t l p/\∀x∈p,BP x.key)->
  Shp u (l+1) up/\Aw u (l+1) up=Aw t l ps.flatten/\∀y∈up,y.val=[]/\(8<=y.ref/\y.ref<256)/\y.ref.toNat∈S'/\BP y.key
 |[],[],_,_=>⟨λx a=>(by cases a),rfl,λy o=>(by cases o)⟩
 |y::F,p::ps,⟨⟨j,C,i,B,s⟩,h⟩,f=>by
  obtain⟨b,e,d⟩:=f p (by simp)
  obtain⟨n,m,k⟩:=Tc g h λq r=>f q (mem_cons_of_mem _ r)
  obtain⟨E,D⟩:=g.shp e
  refine⟨λx a=>?_,?_,λz c=>?_⟩
  ·rcases List.mem_cons.1 a with rfl|a
   ·exact ⟨p,j,b,i.symm,E⟩
   exact n x a
  ·rw [Dh,A3 j,m,D,List.flatten_cons,A1]
  rcases List.mem_cons.1 c with rfl|c
  ·refine ⟨B,s,C,?_⟩
   rw[i]
   obtain⟨z,zs,rfl⟩:=List.exists_cons_of_ne_nil b
   exact d z (by simp)
  exact k z c
theorem Yh{l p:List It}(h:p∈A5 l):p.Sublist l/\(l.length<=6->p.length<=5):=by
 unfold A5 at h
 split at h
 ·simp only[mem_cons,not_mem_nil,or_false]at h
  rcases h with rfl|rfl
  ·exact ⟨List.take_sublist _ _,λ_=>by rw[length_take];omega⟩
  exact⟨List.drop_sublist _ _,λ_=>by rw[length_drop];omega⟩
 rw[List.mem_singleton.1 h];exact⟨List.Sublist.refl _,λ_=>by omega⟩
variable{R:List Int}{S1:List Nat}{l':List It}
theorem NQ{held:List It}(V:l<6)(k:l'≠[])(m:l'.length<=6)(d:Shp t l l')(j:Srt (Aw t l l'))(f:∀y∈l',BQ y=false/\BP y.key/\(0<l->y.ref≠0/\y.val=[]/\y.ref.toNat∈S1))
  (z:l=0->∀y∈l',y.ref≠0->y.ref.toNat∉S1) (S:En t S1 (held.map (·.ref)++R)) (Q:∀y∈held,y.ref=0\/(8<=y.ref/\y.ref<256/\∃x∈l',x.ref=y.ref)):
  (∃e,build t (l:Int) l' held=.error e/\(e=9\/e=70))\/∃u S' up,build t (l:Int) l' held=.ok (u,up)/\En u S' (up.map (·.ref)++R)/\Sub t S1 S'/\ExtB t u/\u.waits.length=t.waits.length+(A5 l').length/\Shp u (l+1) up/\(∀y∈up,y.val=[]/\(8<=y.ref/\y.ref<256)/\y.ref.toNat∈S'/\BP y.key)/\Aw u (l+1) up=Aw t l l'/\up.length=(A5 l').length/\Apa t S1 S':=by
 have s:=HN d j
 have n:∀p∈A5 l',Fit t S1 (l:Int) p:=λp o=>by
  obtain⟨i,B⟩:=F7 o
  obtain⟨U,T⟩:=Yh o
  refine⟨?_,λx g=>(f x (i x g)).2.1,λP x g=>?_,λx g C=>?_,λe x g C=>z (by omega) x (i x g) C⟩
  ·unfold Cw
   rw[Bool.and_eq_true]
   refine⟨decide_eq_true ⟨by omega,by omega,T m,λ_ e=>B k (List.eq_nil_of_length_eq_zero e)⟩,Pb (λx g=>⟨(f x (i x g)).1,λe=>?_⟩) (List.Pairwise.sublist U s) (λq e=>by cases e)⟩
   have:=of_decide_eq_true e
   obtain⟨a,b,_⟩:=(f x (i x g)).2.2 (by omega)
   exact⟨a,b⟩
  ·obtain ⟨_,_,c⟩:=(f x (i x g)).2.2 (by omega)
   obtain⟨r,rfl⟩:∃r,l=r+1:=⟨l-1,by omega⟩
   obtain⟨E,D,_⟩:=d x (i x g)
   exact⟨c,E,by rw[D];congr 2;omega⟩
  cases l with
  |zero=>exact(d x (i x g)).resolve_left C
  |succ r=>obtain⟨E,D,_⟩:=d x (i x g);exact B0 D
 rcases Zb S n Q with h|⟨u,S',up,O,N,M,H,L,G,K⟩
 ·exact .inl h
 obtain⟨J,F,I⟩:=Tc H G λp o=>by
  obtain⟨i,B⟩:=F7 o
  exact⟨B k,d.sub i,λx g=>(f x (i x g)).2.1⟩
 rw[NJ]at F
 exact .inr ⟨u,S',up,O,N,M,H,L,J,I,F,G.len,K⟩
variable{i j:Nat}{xs:List It}
theorem Nq(h:Srt xs)(c:i<xs.length)(b:j<xs.length)(a:i<j):Ap xs[i].key xs[j].key=true:=List.pairwise_iff_getElem.1 h i j c b a
variable{k:Nat}{α:Type}
theorem FJ{xs:List α}{z:α}(h:z∈xs.drop k):∃j,∃b:j<xs.length,k<=j/\xs[j]=z:=by
 obtain⟨i,a,e⟩:=List.getElem_of_mem h
 rw[length_drop]at a
 exact⟨k+i,by omega,by omega,by rw[<-e,List.getElem_drop]⟩
theorem wGb{xs:List α}(a:j<xs.length)(h:j<k):xs[j]∈xs.take k:=by
 have:j<(xs.take k).length:=by rw[length_take];omega
 have e:(xs.take k)[j]=xs[j]:=getElem_take
 rw[<-e];exact getElem_mem this
theorem MT{xs:List α}(a:j<xs.length)(h:k<=j):xs[j]∈xs.drop k:=by
 have:j-k<(xs.drop k).length:=by rw[length_drop];omega
 have e:(xs.drop k)[j-k]=xs[j]:=by rw[List.getElem_drop];congr 1;omega
 rw[<-e];exact getElem_mem this
theorem Pc{q:Ky}(h:Fl xs q=true):∃a:place xs q<xs.length,xs[place xs q].key=q:=by
 have a:=EU h
 refine⟨a,?_⟩
 unfold Fl at h
 have:=of_decide_eq_true h
 rw[List.getElem?_eq_getElem a]at this
 exact Option.some.inj this
theorem wJo{q:Ky}(h:Fl xs q=false)(hp:place xs q<xs.length):xs[place xs q].key≠q:=λe=>by
 unfold Fl at h
 have:=of_decide_eq_false h
 rw[List.getElem?_eq_getElem hp]at this
 exact this (by rw[Option.map_some,e])
theorem Zr{q:Ky}(hs:Srt xs)(hp:Bz xs q<xs.length)(a:0<Bz xs q):KJ xs[Bz xs q].key q:=by
 unfold Bz at hp a⊢
 by_cases h:Fl xs q=true
 ·simp only[h,if_true]at hp⊢
  obtain⟨_,e⟩:=Pc h
  rw[e];exact Fh _
 simp only[h,if_false,Bool.false_eq_true]at hp a⊢
 exact Jz ((Da hs).1 _ (wGb hp (by omega)))
theorem Zs{q:Ky}(hs:Srt xs):∀z∈xs.drop (Bz xs q+1),Ap q z.key=true:=λz k=>by
 obtain⟨j,c,a,rfl⟩:=FJ k
 unfold Bz at a
 by_cases h:Fl xs q=true
 ·simp only[h,if_true]at a
  obtain⟨l,e⟩:=Pc h
  have:=Nq hs l c (by omega)
  rwa[e]at this
 simp only[h,if_false,Bool.false_eq_true]at a
 have f:KJ q xs[j].key:=(Da hs).2 _ (MT c (by omega))
 rcases Qf f with e|e
 ·exfalso
  have b:place xs q<xs.length:=by omega
  by_cases d:j=place xs q
  ·subst d
   exact wJo (by simpa using h) c e.symm
  have i:=Nq hs b c (by omega)
  rw[<-e]at i
  have g:=(Da (q:=q) hs).2 _ (MT b (Nat.le_refl _))
  rw[i]at g;cases g
 exact e
variable{s:Sto}
theorem wAp{z:It}(h:Shp s l [z])(hs:Srt (allOne s l z)):∀y∈allOne s l z,KJ z.key y.key:=λy a=>by
 obtain⟨d,r,c,b⟩:=NN h
 rw[c]at a hs
 rw[<-b]
 rcases List.mem_cons.1 a with rfl|a
 ·exact Fh _
 exact Jz ((List.pairwise_cons.1 hs).1 y a)
theorem EA{p:Nat}(hp:p<xs.length):xs=xs.take p++[xs[p]]++xs.drop (p+1):=by
 rw[List.append_assoc,List.singleton_append,<-List.drop_eq_getElem_cons hp,take_append_drop]
theorem wFq{x:It}(c:Shp s l xs)(b:Srt (Aw s l xs))(hp:Bz xs x.key<xs.length):C5 x (Aw s l xs)=Aw s l (xs.take (Bz xs x.key))++C5 x (allOne s l xs[Bz xs x.key])++Aw s l (xs.drop (Bz xs x.key+1)):=by
 have k:=HN c b
 have e:=EA hp
 have D:Aw s l xs=Aw s l (xs.take (Bz xs x.key))++allOne s l xs[Bz xs x.key]++Aw s l (xs.drop (Bz xs x.key+1)):=by
  conv=>lhs;rw[e]
  rw[A1,A1,Db]
 rw[D]at b⊢
 have o:=List.pairwise_append.1 b
 have t:=List.pairwise_append.1 o.1
 refine Ku (λy d=>?_) (λy d=>?_)
 ·have u:0<Bz xs x.key:=Nat.pos_of_ne_zero λE=>by rw[E]at d;simp[Aw]at d
  obtain⟨a,r,C⟩:=Kg (c.one (x:=xs[Bz xs x.key]) (getElem_mem hp))
  have n:=t.2.2 y d a r
  rw[C]at n
  exact N2 n (Zr k hp u)
 obtain⟨z,g,h⟩:=List.mem_flatMap.1 d
 have f:z∈xs:=List.mem_of_mem_drop g
 have i:Srt (allOne s l z):=by
  obtain⟨A,B,j⟩:=List.append_of_mem g
  have m:=o.2.1
  rw[j,A1,Dh]at m
  exact(List.pairwise_append.1 (List.pairwise_append.1 m).2.1).1
 exact N2 (Zs k z g) (wAp (c.one f) i y h)
theorem ZY{x:It}(hs:Srt xs):Fa ⟨0,xs,place xs x.key⟩ x.key [x]=C5 x xs/\(Fl xs x.key=true->Dr ⟨0,xs,place xs x.key⟩ x.key=1):=by
 obtain⟨m,t⟩:=Da (q:=x.key) hs
 have i:∀y:It,y.key=x.key->C5 x [y]=[x]:=λy e=>by
  unfold C5;rw[List.filter_cons_of_neg (by rw[e,Vm];decide),List.filter_cons_of_neg (by rw[e,Vm];decide)];rfl
 have b:C5 x []=[x]:=rfl
 by_cases c:place xs x.key<xs.length
 ·have s:xs.drop (place xs x.key)=xs[place xs x.key]::xs.drop (place xs x.key+1):=List.drop_eq_getElem_cons c
  have l:∀y∈xs.drop (place xs x.key+1),Ap xs[place xs x.key].key y.key=true:=λy a=>by
   obtain⟨j,r,o,rfl⟩:=FJ a
   exact Nq hs c r (by omega)
  by_cases g:xs[place xs x.key].key=x.key
  ·have f:Dr ⟨0,xs,place xs x.key⟩ x.key=1:=by
    unfold Dr;show (match xs[place xs x.key]? with|none=>0|some y=>if (0:Int)=0/\y.key≠x.key then 0 else 1)=1
    rw[List.getElem?_eq_getElem c];exact if_neg λh=>h.2 g
   refine⟨?_,λ_=>f⟩
   unfold Fa;rw[f]
   show xs.take _++[x]++xs.drop _=_
   conv=>rhs;rw[EA c]
   rw[Ku m (λy a=>by have:=l y a;rwa[g]at this),i _ g]
  have f:Dr ⟨0,xs,place xs x.key⟩ x.key=0:=by
   unfold Dr;show (match xs[place xs x.key]? with|none=>0|some y=>if (0:Int)=0/\y.key≠x.key then 0 else 1)=0
   rw[List.getElem?_eq_getElem c];exact if_pos ⟨rfl,g⟩
  have k:Ap x.key xs[place xs x.key].key=true:=(Qf (show KJ x.key xs[place xs x.key].key from t _ (MT c (Nat.le_refl _)))).resolve_left λe=>g e.symm
  refine⟨?_,λd=>by obtain⟨_,e⟩:=Pc d;exact absurd e g⟩
  unfold Fa;rw[f]
  show xs.take _++[x]++xs.drop (place xs x.key)=_
  have e:C5 x xs=C5 x (xs.take (place xs x.key)++[]++xs.drop (place xs x.key)):=by rw[append_nil,take_append_drop]
  rw[e,Ku m (λy a=>?_),b]
  rw[s]at a
  rcases List.mem_cons.1 a with rfl|a
  ·exact k
  exact Kl k (l y a)
 have n:xs.drop (place xs x.key)=[]:=List.drop_eq_nil_of_le (by omega)
 have f:Dr ⟨0,xs,place xs x.key⟩ x.key=0:=by
  unfold Dr;show (match xs[place xs x.key]? with|none=>0|some y=>if (0:Int)=0/\y.key≠x.key then 0 else 1)=0
  rw[List.getElem?_eq_none (by omega)]
 refine⟨?_,λd=>absurd (EU d) c⟩
 unfold Fa;rw[f]
 show xs.take _++[x]++xs.drop (place xs x.key)=_
 have e:C5 x xs=C5 x (xs.take (place xs x.key)++[]++xs.drop (place xs x.key)):=by rw[append_nil,take_append_drop]
 rw[e,Ku m (λy a=>by rw[n]at a;cases a),b]
def Vk(ws:List Stp)(q:Ky):Bool:=match ws.getLast? with|some w=>Fl w.xs q|none=>false
def wLn(ws:List Stp)(q:Ky):Prop:=(∀w∈ws,¬w.xs.length<5)/\Vk ws q=false
variable{lv:Int}
theorem Ju(h:Ai s k=some (lv,xs)):∀y∈xs,BQ y=false/\BP y.key/\(0<lv->y.ref≠0/\y.val=[]):=λy d=>by
 have c:=Ar h
 obtain⟨a,b⟩:=BX c.ok y d
 exact⟨a,Hk h y d,λe=>b (by simpa using e)⟩
variable{y:It}
theorem Um(h:y.val=[]/\(8<=y.ref/\y.ref<256)):BQ y=false:=by
 unfold BQ;rw[decide_eq_false];rw[h.1];simp;omega
variable{S:List Nat}
theorem W6{x:It}(hx:BQ x=false)(U:BP x.key)(P:x.ref≠0->¬s.now.getD x.ref.toNat 0=0)(Q:x.ref≠0->x.ref.toNat∉S)(W:En s S (x.ref::R)):∀(l:Nat)(xs:List It)(k:Nat),Ai s k=some ((l:Int),xs)->k∈S->Shp s l xs->Srt (Aw s l xs)->
  (∃e,H2 s x (Av s x.key l xs)=.error e/\(e=9\/e=70))\/∃t S' up,H2 s x (Av s x.key l xs)=.ok (t,up)/\En t S' (up.map (·.ref)++R)/\Sub s S S'/\ExtB s t/\t.waits.length<=s.waits.length+2*(l+1)/\Shp t (l+1) up/\(∀y∈up,y.val=[]/\(8<=y.ref/\y.ref<256)/\y.ref.toNat∈S'/\BP y.key)/\Aw t (l+1) up=C5 x (Aw s l xs)/\0<up.length/\up.length<=2/\(up.length=2->wLn (Av s x.key l xs) x.key)/\Apa s S S'
 |0,xs,k,j,B,g,d=>by
  rw[B2]at d
  obtain⟨m,ak⟩:=ZY (x:=x) d
  have z:=Ar j
  have o:=Ju j
  have hg:H2 s x (Av s x.key 0 xs)=build s 0 (C5 x xs) [x]:=by
   rw[<-m];rfl
  have i:∀y∈C5 x xs,y∈xs\/y=x:=λy c=>by
   unfold C5 at c
   rcases List.mem_append.1 c with c|c
   ·exact .inl (List.mem_filter.1 c).1
   rcases List.mem_cons.1 c with c|c
   ·exact .inr c
   exact .inl (List.mem_filter.1 c).1
  have D:x∈C5 x xs:=List.mem_append_right _ (by simp)
  have n:(C5 x xs).length<=6/\((C5 x xs).length=6->xs.length=5/\Fl xs x.key=false):=by
   have ah:=z.len
   have f:=Hg xs x.key
   have C:(C5 x xs).length=(xs.take (place xs x.key)).length+1+(xs.drop (place xs x.key+Dr ⟨0,xs,place xs x.key⟩ x.key)).length:=by
    rw[<-m];unfold Fa;simp only[List.length_append];rfl
   rw[length_take,length_drop]at C
   refine⟨by omega,λh6=>⟨by omega,?_⟩⟩
   cases hb:Fl xs x.key with
   |false=>rfl
   |true=>have h1:=ak hb;have K:=EU hb;omega
  have au:=of_decide_eq_false (show decide _=false from hx)
  have J:=NQ (t:=s) (S1:=S) (R:=R) (l:=0) (l':=C5 x xs) (held:=[x]) (by omega) (List.ne_nil_of_mem D) n.1 (λy c=>(i y c).elim (λh=>g y h) (λh=>by rw[h];exact(Classical.em (x.ref=0)).imp id P)) (by rw[B2];exact Kt d)
   (λy c=>⟨(i y c).elim (λh=>(o y h).1) (λh=>by rw[h];exact hx),(i y c).elim (λh=>(o y h).2.1) (λh=>by rw[h];exact U),λh=>absurd h (by omega)⟩) (λ_ y c Z=>(i y c).elim (λh=>W.disj k B xs j y h Z) (λh=>by rw[h]at Z ⊢;exact Q Z)) W
   (λy c=>by
    rw[List.mem_singleton.1 c]
    by_cases Z:x.ref=0
    ·exact .inl Z
    exact .inr ⟨by omega,by omega,x,D,rfl⟩)
  rw[hg]
  rcases J with h|⟨u,S',up,O,N,k3,k4,k5,k6,k7,k8,H,I⟩
  ·exact .inl h
  have f:=Ga (C5 x xs)
  have ab:u.waits.length<=s.waits.length+2:=by rw[k5,f];split<;>omega
  refine .inr ⟨u,S',up,O,N,k3,k4,by omega,k6,k7,by rw[k8,B2,B2],?_,?_,λK=>?_,I⟩
  ·rw [H,f];split<;>omega
  ·rw [H,f];split<;>omega
  rw[H,f]at K
  have h6:(C5 x xs).length=6:=by
   have:=n.1
   by_cases h5:5<(C5 x xs).length
   ·omega
   rw[if_neg h5]at K;omega
  obtain⟨a,b⟩:=n.2 h6
  refine⟨λw L=>?_,b⟩
  rw[show Av s x.key 0 xs=[⟨0,xs,place xs x.key⟩]from rfl]at L
  rw[List.mem_singleton.1 L];show ¬xs.length<5;omega
 |l+1,xs,k,j,B,g,d=>by
  have z:=Ar j
  have ag:=FH j (by omega)
  have M:=G6 (q:=x.key) ag
  have o:=Ju j
  obtain⟨ys,r,aq,ap,ac⟩:=g _ (getElem_mem M)
  obtain⟨aj,_⟩:=W.closed k B _ _ j (by omega) _ (getElem_mem M)
  have V:kid s xs[Bz xs x.key]=ys:=by unfold kid;rw[r]
  have T:Av s x.key (l+1) xs=⟨((l+1:Nat):Int),xs,Bz xs x.key⟩::Av s x.key l ys:=by
   rw[Av,List.getElem?_eq_getElem M];show _::Av s x.key l (kid s xs[Bz xs x.key])=_;rw[V]
  have F:=wFq g d M
  have af:Srt (Aw s l ys):=by
   have e:=EA M
   rw[e,A1,A1,Db]at d
   have:=(List.pairwise_append.1 (List.pairwise_append.1 d).1).2.1
   rwa[A3 r]at this
  rw[A3 r]at F
  have hm:Dr ⟨((l+1:Nat):Int),xs,Bz xs x.key⟩ x.key=1:=by
   unfold Dr
   show (match xs[Bz xs x.key]? with|none=>0|some y=>if ((l+1:Nat):Int)=0/\y.key≠x.key then 0 else 1)=1
   rw[List.getElem?_eq_getElem M];exact if_neg λh=>by omega
  rw[T]
  rcases W6 hx U P Q W l ys _ r aj ac af with⟨e,h1,K⟩|⟨t,S1,up,h1,K,h3,X,h5,h6,h7,h8,h9,aw,am,al⟩
  ·exact .inl ⟨e,by rw[H2,h1],K⟩
  have ai:H2 s x (⟨((l+1:Nat):Int),xs,Bz xs x.key⟩::Av s x.key l ys)=build t ((l+1:Nat):Int) (Fa ⟨((l+1:Nat):Int),xs,Bz xs x.key⟩ x.key up) up:=by rw[H2,h1]
  rw[ai]
  have m:Fa ⟨((l+1:Nat):Int),xs,Bz xs x.key⟩ x.key up=xs.take (Bz xs x.key)++up++xs.drop (Bz xs x.key+1):=by
   unfold Fa;rw[hm]
  rw[m]
  obtain⟨a1,a2⟩:=X.shp (g.sub (ys:=xs.take (Bz xs x.key)) λy c=>List.mem_of_mem_take c)
  obtain⟨c1,c2⟩:=X.shp (g.sub (ys:=xs.drop (Bz xs x.key+1)) λy c=>List.mem_of_mem_drop c)
  have G:Aw t (l+1) (xs.take (Bz xs x.key)++up++xs.drop (Bz xs x.key+1))=C5 x (Aw s (l+1) xs):=by
   rw[A1,A1,a2,c2,h8,F]
  have i:∀y∈xs.take (Bz xs x.key)++up++xs.drop (Bz xs x.key+1),y∈xs\/y∈up:=λy c=>by
   rcases List.mem_append.1 c with c|c
   ·rcases List.mem_append.1 c with c|c
    ·exact .inl (List.mem_of_mem_take c)
    exact .inr c
   exact .inl (List.mem_of_mem_drop c)
  have n:(xs.take (Bz xs x.key)++up++xs.drop (Bz xs x.key+1)).length+1=xs.length+up.length:=by
   simp only[List.length_append,length_take,length_drop];omega
  have ah:=z.len
  have E:∀y∈up,y∈xs.take (Bz xs x.key)++up++xs.drop (Bz xs x.key+1):=λy c=>List.mem_append_left _ (List.mem_append_right _ c)
  have J:=NQ (t:=t) (S1:=S1) (R:=R) (l:=l+1) (l':=xs.take (Bz xs x.key)++up++xs.drop (Bz xs x.key+1)) (held:=up) (by have:=z.lev;omega) (λe=>by
    obtain⟨y,c⟩:=List.exists_mem_of_length_pos h9
    have:=E y c;rw[e]at this;cases this) (by omega) ((a1.app h6).app c1) (by rw[G];exact Kt d)
   (λy c=>(i y c).elim (λh=>⟨(o y h).1,(o y h).2.1,λ_=>by
     obtain⟨b1,b2⟩:=(o y h).2.2 (by omega)
     obtain⟨d1,zs,d2⟩:=W.closed k B _ _ j (by omega) y h
     exact⟨b1,b2,h3 _ d1 (by rw[d2];simp)⟩⟩) (λh=>by
     obtain⟨b1,b2,b3,b4⟩:=h7 y h
     exact⟨Um ⟨b1,b2⟩,b4,λ_=>⟨by omega,b1,b3⟩⟩)) (λe=>absurd e (by omega)) K
   (λy c=>.inr ⟨(h7 y c).2.1.1,(h7 y c).2.1.2,y,E y c,rfl⟩)
  rcases J with⟨e,O,N⟩|⟨u,S',aa,O,N,k3,k4,k5,k6,k7,k8,H,I⟩
  ·exact .inl ⟨e,O,N⟩
  have f:=Ga (xs.take (Bz xs x.key)++up++xs.drop (Bz xs x.key+1))
  have ab:u.waits.length<=t.waits.length+2:=by rw[k5,f];split<;>omega
  refine .inr ⟨u,S',aa,O,N,h3.trans X k3,X.trans k4,by omega,k6,k7,by rw[k8,G],?_,?_,λY=>?_,al.trans X I⟩
  ·rw [H,f];split<;>omega
  ·rw [H,f];split<;>omega
  rw[H,f]at Y
  have av:5<(xs.take (Bz xs x.key)++up++xs.drop (Bz xs x.key+1)).length:=Classical.byContradiction λh=>by rw[if_neg h]at Y;omega
  have ae:up.length=2/\xs.length=5:=by omega
  obtain⟨f1,f2⟩:=am ae.1
  refine⟨λw L=>?_,?_⟩
  ·rcases List.mem_cons.1 L with rfl|L
   ·show ¬xs.length<5;omega
   exact f1 w L
  unfold Vk at f2⊢
  have ad:Av s x.key l ys≠[]:=λe=>by have:=EQ (s:=s) (q:=x.key) l ys;rw[e]at this;cases this
  obtain⟨w0,ao,e0⟩:=List.exists_cons_of_ne_nil ad
  rw[e0]at f2⊢
  rw[List.getLast?_cons_cons];exact f2
set_option maxRecDepth 8000
variable{R:List Int}{S:List Nat}{l:Nat}{r:Int}{t u:Sto}{xs:List It}
theorem Thin.tree(h:Thin u t)(e:En t S R)(m:r∈R)(o:8<=r/\r<256)(j:r.toNat∈S)(i:Ai u r.toNat=some ((l:Int),xs))(hs:Shp u l xs):
  Ai t r.toNat=some ((l:Int),xs)/\Shp t l xs/\Aw t l xs=Aw u l xs:=by
 have s:0<R.count r:=List.count_pos_iff.2 m
 have d:=e.live (k:=r) (by omega) o.2 (by omega)
 have c:Ai t r.toNat=some ((l:Int),xs):=by rw[h.nd d];exact i
 have g:=Ar c
 refine⟨c,h.shp e hs λx f=>⟨λn=>?_,λn y=>?_⟩⟩
 ·obtain ⟨a,zs,b⟩:=e.closed _ j _ _ c (by omega) x f
  exact⟨a,by rw[b];simp⟩
 have:=g.ref x f
 exact e.live (by omega) (by omega) (by have:=G5 j c f;omega)
theorem KB(b:Aq t)(d:8<=r/\r<256)(a:Ai t r.toNat=some ((l:Int),xs))(c:AV t l xs):fchk t r=((l:Int)+1,0)/\allT t r=Aw t l xs:=by
 refine⟨?_,by unfold allT;rw[a];rfl⟩
 rw[GL b (by omega) (B0 a),a]
 show (if AV t ((l:Int)).toNat xs then (((l:Int)+1),(0:Int))else (0,8))=_
 rw[Int.toNat_natCast,if_pos c]
variable{s:Sto}
theorem E6(h:AV s l xs):Srt (Aw s l xs):=(Up h).srt
theorem Uo{e:List Nat}(g:ExtB s u)(hs:Sub s S e)(h:Thin u t)(k:En t e R)(z:r∈R)(C:r.toNat∈S)(j:(fchk s r).2=0):fchk t r=fchk s r/\allT t r=allT s r/\r.toNat∈e:=by
 obtain⟨y,l,a,B,lev,xs,b,i,D⟩:=CT j
 have d:=hs _ C (by rw[b];simp)
 obtain⟨G,m⟩:=g.shp (Jn i)
 obtain⟨o,n,f⟩:=h.tree k z ⟨l,a⟩ d (g.nd _ _ b) G
 have c:Srt (Aw t lev xs):=by rw[f,m];exact E6 i
 obtain⟨F,E⟩:=KB k.ok ⟨l,a⟩ o (J2 n c)
 refine⟨?_,?_,d⟩
 ·rw [F,<-D];exact Prod.ext rfl j.symm
 rw[E,f,m];unfold allT;rw[b];rfl
structure PutOk(s t:Sto)(root now:Int)(x:It)(R:List Int)(S S':List Nat):Prop where
 en:En t S' (now::R)
 inS:now.toNat∈S'
 rng:8<=now/\now<256
 chk:(fchk t now).2=0
 high:(fchk t now).1=(fchk s root).1\/(fchk t now).1=(fchk s root).1+1
 all:allT t now=C5 x (allT s root)
 other:∀r∈R,r.toNat∈S->(fchk s r).2=0->fchk t r=fchk s r/\allT t r=allT s r/\r.toNat∈S'
 waits:(t.waits.length:Int)<=s.waits.length+2*(fchk s root).1+1
 apa:Apa s S S'
variable{ws:List Stp}
theorem ZA{q:Ky}(h:¬DT ws q=true)(a:wLn ws q):ws.length≠6:=λe=>by
 apply h
 have d:(ws.any λw=>decide (w.xs.length<5))=false:=by
  rw[List.any_eq_false];intro w b;simpa using a.1 w b
 have c:DT ws q=(ws.length==6&& !(ws.any λw=>decide (w.xs.length<5))&& !Vk ws q):=rfl
 rw[c,d,a.2,e];rfl
variable{lev:Nat}{root:Int}{xs0:List It}
theorem WH{i:List Nat}{x y:It}(N:(fchk s root).2=0)(Q:root.toNat∈S)(a:Ai s root.toNat=some ((lev:Int),xs0))(E:(fchk s root).1=(lev:Int)+1)(M:l=lev\/l=lev+1)
  (O:En u i (y.ref::root::R)) (hs:Sub s S i) (D:ExtB s u) (W:u.waits.length<=s.waits.length+2*(lev+1)+1) (f:Shp u (l+1) [y]) (d:(8<=y.ref/\y.ref<256)/\y.ref.toNat∈i) (g:Aw u (l+1) [y]=C5 x (Aw s lev xs0)) (e:Srt (Aw s lev xs0)) (P:Apa s S i):
  ∃t,leave u root=some t/\PutOk s t root y.ref x R S i:=by
 obtain⟨K,T,h,_,_⟩:=CT N
 have z:=hs _ Q (by rw[a];simp)
 obtain⟨t,J,j,k⟩:=GF (O.perm (List.Perm.swap _ _ _)) ⟨T,h⟩ z (D.nd _ _ a)
 obtain⟨B,G,Y,X,V⟩:=f y (by simp)
 obtain⟨I,H,C⟩:=k.tree j (r:=y.ref) (by simp) d.1 d.2 G V
 have b:Aw u l B=C5 x (Aw s lev xs0):=by rw[<-A3 G,<-Db];exact g
 have c:Srt (Aw t l B):=by rw[C,b];exact Kt e
 obtain⟨F,U⟩:=KB j.ok d.1 I (J2 H c)
 have o:allT s root=Aw s lev xs0:=by unfold allT;rw[a];rfl
 refine⟨t,J,j,d.2,d.1,by rw[F],?_,by rw[U,C,b,o],λr L n m=>Uo D hs k j (by simp[L]) n m,?_,P⟩
 ·rw [F,E]
  rcases M with rfl|rfl
  ·exact .inl rfl
  right;show ((lev+1:Nat):Int)+1=_;omega
 rw[k.waits,E];omega
theorem WG{x:It}(g:CL s root x=0)(U:BP x.key)(N:x.ref≠0->x.ref.toNat∉S)(he:En s S (x.ref::root::R))(X:root.toNat∈S):
  (∃e,Fw s root x=.error e/\(e=9\/e=70\/e=120))\/∃t h S',Fw s root x=.ok (t,h)/\PutOk s t root h x R S S':=by
 obtain⟨W,V,M⟩:=P6 g
 obtain⟨ad,h8,aa,_,lev,xs0,b,k,h1⟩:=CT W
 have m:=Jn k
 have d:=E6 k
 have ae:=(Ar b).lev
 rw[HT g b]
 by_cases a:DT (Av s x.key lev xs0) x.key=true
 ·exact .inl ⟨120,NE a,.inr (.inr rfl)⟩
 rcases W6 (R:=root::R) (CH V) U M N he lev xs0 _ b X m d with⟨e,C,B⟩|⟨t,S1,f,C,B,k3,z,k5,k6,r,K,k9,ac,L,i⟩
 ·exact .inl ⟨e,P5 a C,B.imp id .inl⟩
 by_cases D:1<f.length
 ·have O:f.length=2:=by omega
  have T:=ZA a (L O)
  rw[EQ]at T
  have Q:=NQ (t:=t) (S1:=S1) (R:=root::R) (l:=lev+1) (l':=f) (held:=f) (by omega) (λe=>by rw[e]at D;exact absurd D (by decide)) (by omega) k6 (by rw[K];exact Kt d)
   (λy j=>by
    obtain⟨E,o,n,Y⟩:=r y j
    exact⟨Um ⟨E,o⟩,Y,λ_=>⟨by omega,E,n⟩⟩) (λe=>absurd e (by omega)) B (λy j=>.inr ⟨(r y j).2.1.1,(r y j).2.1.2,y,j,rfl⟩)
  have c:EL x ((Av s x.key lev xs0).length:Int) (H2 s x (Av s x.key lev xs0))=build t ((lev+1:Nat):Int) f f:=by
   rw[C,EQ];exact if_pos D
  rcases Q with⟨e,J,H⟩|⟨u,S',ab,J,H,m3,m4,m5,m6,m7,m8,Z,I⟩
  ·exact .inl ⟨e,P4 a (c.trans J),H.imp id .inl⟩
  have P:(A5 f).length=1:=by rw[Ga,if_neg (by omega)]
  rw[P]at Z m5
  obtain⟨y,rfl⟩:=List.length_eq_one_iff.1 Z
  obtain⟨E,o,n,Y⟩:=m7 y (by simp)
  obtain⟨v,G,F⟩:=WH (x:=x) W X b h1 (.inr rfl) H (k3.trans z m3) (z.trans m4) (by omega) m6 ⟨o,n⟩ (m8.trans K) d (i.trans z I)
  exact .inr ⟨v,y.ref,S',NF a (c.trans J) G,F⟩
 obtain⟨y,rfl⟩:=List.length_eq_one_iff.1 (show f.length=1 by omega)
 obtain⟨E,o,n,Y⟩:=r y (by simp)
 have c:EL x ((Av s x.key lev xs0).length:Int) (H2 s x (Av s x.key lev xs0))=.ok (t,[y]):=by
  rw[C];show (if 1<[y].length then build t ((Av s x.key lev xs0).length:Int) [y] [y]else .ok (t,[y]))=_;exact if_neg D
 obtain⟨v,G,F⟩:=WH (x:=x) W X b h1 (.inl rfl) B k3 z (by omega) k6 ⟨o,n⟩ K d i
 exact .inr ⟨v,y.ref,S1,NF a c G,F⟩
set_option maxRecDepth 8000
set_option maxHeartbeats 40000000
def Qz(s:Sto)(lv:Int)(xs:List It):Int:=if Aq s then mkE s lv xs else 8
def DmPost(s:Sto)(lv:Int)(xs:List It)(u:Value)(M':Mem):Prop:=(Qz s lv xs≠0/\u=.tuple #[.agg zeroSt.toArray,.int .i64 0,.int .i64 (Qz s lv xs)])\/(Qz s lv xs=0/\∃v,u=.tuple #[v,.int .i64 (mkAt (Ag s xs)),.int .i64 0]/\ST M' v (mkS s lv xs)/\Aq (mkS s lv xs))
theorem YY(s:Sto)(D nv C:Value)(j:Option Addr)(B:Nat)(lv:Int)(xs:List It)(a:Option Addr)(c:Nat)(ps:List (It×Value))(M:Mem)(h1:LS M D s.blocks)(b:List (Wt×Value))(F:s.waits.length<=B)(E:SM M j (b.flatMap AT))(n:b.map (·.1)=s.waits)(G:∀p∈b,BS M p.2 p.1.2)(h3:BS M nv s.now)(h4:BS M C s.last)(hc:xs.length<=c)(hs:SM M a (ps.flatMap Ac))(hp:ps.map (·.1)=xs)(hb:∀p∈ps,BS M p.2 p.1.val)(Z:∀x∈xs,0<=x.key.kind/\x.key.kind<256):
  SpecL prog 90 #[.agg #[D,.slice j s.waits.length B,nv,C],.agg #[.int .i64 lv,.slice a xs.length c]] M [] λu M' L'=>DmPost s lv xs u M'/\L'=[]:=by
 have ab:WS M (.slice j s.waits.length B) s.waits:=⟨j,B,b,rfl,F,E,n,G⟩
 have ac:ST M (.agg #[D,.slice j s.waits.length B,nv,C]) s:=⟨_,_,_,_,rfl,h1,ab,h3,h4⟩
 have Y:NS M (.slice a xs.length c) xs:=⟨a,c,ps,rfl,hc,hs,hp,hb⟩
 refine sB func90 ntmps90 ?_;intro W
 refine Rl λb2 b3 b4=>?_
 refine gQ (CD s _ M ac) ?_
 refine gj (λg=>?_) λg=>?_
 ·refine gr ?_
  have h:Qz s lv xs=8:=if_neg λk=>g (by unfold Dp;rw[if_pos k])
  have hk:Dp s=8:=by unfold Dp;rw[if_neg λk=>g (by unfold Dp;rw[if_pos k])]
  refine⟨.inl ⟨by rw[h];decide,?_⟩,rfl⟩
  rw[h,<-hk];rfl
 refine gQ (FI lv xs _ M Y) ?_
 refine gj (λP=>?_) λP=>?_
 ·refine gr ?_
  have d:Aq s:=Classical.byContradiction λk=>g (by unfold Dp;rw[if_neg k];decide)
  have J:¬Cw lv xs=true:=λk=>P (if_pos k)
  have h:Qz s lv xs=8:=by unfold Qz;rw[if_pos d];unfold mkE;rw[if_neg J]
  have hk:CW lv xs=8:=if_neg J
  refine⟨.inl ⟨by rw[h];decide,?_⟩,rfl⟩
  rw[h,<-hk];rfl
 refine gh ?_
 have d:Aq s:=Classical.byContradiction λk=>g (by unfold Dp;rw[if_neg k];decide)
 obtain⟨aa,⟨o,_⟩,⟨t,_⟩⟩:=id d
 have H:s.waits.length<=4096:=aa.2.1
 refine gC (K2 s D nv C j B M F (by omega) h3 (by omega)) ?_;rintro _ M1 _ f ⟨Q,Rn,na,nc,rfl,rfl,I⟩
 have ad:BOwn M1 Q ((Q,cE [D,.slice j s.waits.length s.waits.length,.slice na s.now.length nc,C] Ee)::Rn) s:=by
  refine⟨D,_,na,nc,C,[],Rn,rfl,h1.mono f,h4.mono f,I,b,n,λp hp=>(G p hp).mono f,?_⟩
  have L:(b.flatMap AT).length=s.waits.length*2:=by rw[Aj AT 2 Bl,<-n,List.length_map]
  rcases E with h0|⟨wb,wo,rfl,V⟩
  ·have hz:s.waits.length=0:=by rw[h0,List.length_nil]at L;omega
   rw[h0,hz]
   cases j with
   |none=>exact .inl (Own.nil _ _)
   |some ba=>exact .inr ⟨rfl,rfl,ba,rfl,.inl rfl,λi u X=>by cases X⟩
  exact .inr ⟨rfl,L,_,rfl,.inr rfl,λi u X=>(V i u X).mono f⟩
 refine gC (Ls s lv xs a c ps M1 hc (hs.mono f) hp (λp hp=>(hb p hp).mono f) Z Q _ ad o t H) ?_;rintro _ M2 R2 au ⟨at_,e,rfl,he,O⟩
 refine gj (λz=>?_) λz=>?_
 ·refine gr ?_
  have h:Qz s lv xs=e:=by unfold Qz;rw[if_pos d];exact he.symm
  exact⟨.inl ⟨by rw[h];exact z,by rw[h];rfl⟩,rfl⟩
 refine gh ?_
 have y:e=0:=Classical.not_not.1 z
 have m:mkE s lv xs=0:=he.symm.trans y
 have r:=GE m H
 have K:=Hl d r.1 r.2.2.1 r.2.2.2
 obtain⟨N,⟨am,_⟩,⟨ao,_⟩⟩:=id K
 refine Kq (O y).2 (by simp) ?_
 intro M3 U R S T aq e3 k1 k2 k3 k4
 refine gc (DP (mkS s lv xs) Q U R S T M3 e3 k1 k2 k3 k4 N (by omega) (by omega)) ?_;rintro _ M4 ap l
 obtain⟨q1,q2,q3,q4,rfl,f1,f2,f3,f4⟩:=l.ex
 obtain⟨aw,av,af,rfl,_⟩:=id f1
 obtain⟨ah,ag,ae,rfl,_⟩:=id f2
 obtain⟨aj,ai,rfl,_⟩:=id f3
 obtain⟨al,ak,rfl,_⟩:=id f4
 refine gr ?_
 have h:Qz s lv xs=0:=by unfold Qz;rw[if_pos d];exact m
 exact⟨.inr ⟨h,_,by rw[<-(O y).1];rfl,l,K⟩,rfl⟩
variable{M':Mem}{lv:Int}{s:Sto}{u:Value}{xs:List It}
theorem DmPost.form(h:DmPost s lv xs u M'):∃y bn t i f g k a j n l m at_ e,u=.tuple #[.agg #[.slice y bn t,.slice i f g,.slice k a j,.slice n l m],.int .i64 at_,.int .i64 e]/\
  ((e≠0/\e=Qz s lv xs/\at_=0/\a=0)\/(e=0/\Qz s lv xs=0/\at_=(mkAt (Ag s xs):Int)/\a=(mkS s lv xs).now.length/\ST M' (.agg #[.slice y bn t,.slice i f g,.slice k a j,.slice n l m]) (mkS s lv xs)/\Aq (mkS s lv xs))):=by
 rcases h with⟨c,b⟩|⟨c,v,b,o,G⟩
 ·exact ⟨none,0,0,none,0,0,none,0,0,none,0,0,0,_,b,.inl ⟨c,rfl,rfl,rfl⟩⟩
 obtain⟨Q,P,O,N,rfl,K,J,I,H⟩:=o.ex
 obtain⟨M,L,r,rfl,_⟩:=id K
 obtain⟨B,z,d,rfl,_⟩:=id J
 obtain⟨D,C,rfl,_⟩:=id I
 obtain⟨F,E,rfl,_⟩:=id H
 exact⟨_,_,_,_,_,_,_,_,_,_,_,_,_,0,b,.inr ⟨rfl,c,rfl,rfl,o,G⟩⟩
theorem Pt(s:Sto)(v sl:Value)(lv:Int)(xs:List It)(M:Mem)(o:ST M v s)(y:NS M sl xs)(i:∀x∈xs,0<=x.key.kind/\x.key.kind<256):
  SpecL prog 90 #[v,.agg #[.int .i64 lv,sl]] M [] λu M' F=>DmPost s lv xs u M'/\F=[]:=by
 obtain⟨b,w,n,l,rfl,E,⟨k,j,d,rfl,g,e,f,h⟩,D,C⟩:=o.ex
 obtain⟨a,c,m,rfl,z,r,t,B⟩:=y
 exact YY s b n l k j lv xs a c m M E d g e f h D C z r t B i
theorem He(s:Sto)(v c:Value)(a:Int)(x:It)(M:Mem)(m:ST M v s)(k:BS M c x.val)(hk:BP x.key):
  SpecL prog 61 #[v,.int .i64 a,.agg #[.int .u8 x.key.kind,.int .u32 x.key.id,.int .u32 x.key.off,.int .i64 x.ref,c]] M [] λu M' y=>PtPost (Fw s a x) u M'/\y=[]:=by
 obtain⟨b,w,n,l,rfl,t,⟨j,i,d,rfl,g,e,f,h⟩,r,o⟩:=m.ex
 exact wAb s a x c b n l j i d M t g e f h r o k hk
theorem Yg(s:Sto)(f b nv c:Value)(M:Mem)(d:ST M (.agg #[f,b,nv,c]) s):
  SpecL prog 43 #[.agg #[f,b,nv,c]] M [] λu M' j=>DmPost s 0 [] u M'/\j=[]:=by
 refine sB func43 ntmps43 ?_;intro W
 refine gh ?_
 refine lh (Bf (cs:=[f,b,nv,c]) rfl rfl rfl rfl) ?_;rintro _ _ _ ⟨E,rfl,rfl,rfl⟩
 refine lh (AM rfl rfl) ?_;rintro _ _ _ ⟨D,rfl,rfl,rfl⟩
 iterate 2 refine jp rfl ?_
 refine Am (jT (Ao (Ah ?_)))
 refine lq (Gz rfl rfl rfl rfl rfl) ?_
 refine lq (Bc (Bk (cs:=[_,_]) rfl rfl rfl (by rfl)) (v':=.agg #[.int .i64 0,.slice none 0 0]) rfl) ?_
 refine gc (Pt s _ _ 0 [] M d NS.nil (λx h=>by cases h)) ?_;rintro _ F i a
 obtain⟨C,bn,B,m,k,l,r,n,o,z,t,y,at_,e,rfl,g⟩:=a.form
 refine gr ?_
 exact⟨a,rfl⟩
set_option maxRecDepth 8000
variable{M:Mem}{b:Nat}{e:TypeId}{g:Nat×Nat}{xs:List Value}
theorem EW{off:Nat}{v:Value}(h:M b=some (.cells xs.toArray e g))(a:xs[off]? =some v):CM M b off v:=⟨_,_,_,h,by rw[List.getElem?_toArray];exact a⟩
theorem PT5.st{x:V5}{p:Po}(h:PT5 M x p):ST M (.agg #[x.b.v,x.w.v,x.n.v,x.l.v]) p.st:=⟨_,_,_,_,rfl,h.b,h.w,h.n,h.l⟩
variable{s:Sto}
theorem ST.four{v:Value}(h:ST M v s):∃a b c d:Sl,v=.agg #[a.v,b.v,c.v,d.v]/\LS M a.v s.blocks/\WS M b.v s.waits/\BS M c.v s.now/\BS M d.v s.last:=by
 obtain⟨a,b,c,d,rfl,i,g,f,e⟩:=h.ex
 obtain⟨a,rfl⟩:=i.sl
 obtain⟨b,rfl⟩:=g.sl
 obtain⟨c,rfl⟩:=f.sl
 obtain⟨d,rfl⟩:=e.sl
 exact⟨a,b,c,d,rfl,i,g,f,e⟩
set_option maxRecDepth 8000
theorem EY(bs:List (List By))(k:Nat)(ws:List Wt):(∀w∈ws,0<=w.1/\w.1≠(k:Int))->(AW bs ws).getD k []=bs.getD k []:=by
 refine K7 (p:=λws=>(∀w∈ws,0<=w.1/\w.1≠(k:Int))->(AW bs ws).getD k []=bs.getD k []) (λ_=>rfl) (λws w a h=>?_) ws
 have c:=h w (by simp)
 rw[KS,<-a λv b=>h v (by simp[b])];simp[getD,List.getElem?_set_ne (show w.1.toNat≠k by omega)]
theorem TT{p:Po}(h:PoOk p)(b:PoN p):seen (Bn p).st ((p.gen+1)%4).toNat=PG (GZ p):=by
 have d:=b.gen
 show (AW (FA p 3).1 [((p.gen+1)%4,PG (GZ p))]).getD ((p.gen+1)%4).toNat []=_
 have c:(FA p 3).1.length=256:=(Hz h b 3).1
 show ((FA p 3).1.set ((p.gen+1)%4).toNat (PG (GZ p))).getD ((p.gen+1)%4).toNat []=_
 have a:((p.gen+1)%4).toNat<(FA p 3).1.length:=by omega
 rw[getD,List.getElem?_set_self a];rfl
variable{k:Nat}
theorem Y6{p:Po}(c:PoN p)(hk:k<4)(d:(k:Int)≠(p.gen+1)%4)(b:∀w∈p.st.waits,0<=w.1/\w.1≠(k:Int)):seen (Bn p).st k=p.st.blocks.getD k []:=by
 have f:=c.gen
 show (AW (AW (AW p.st.blocks p.st.waits) (Bx p 1)) (Bx p 2)).getD k []=_
 rw[EY _ k _ λw a=>?_,EY _ k _ λw a=>?_,EY _ k _ b]
 ·simp only[Bx,wts,mem_cons,not_mem_nil,or_false]at a
  rcases a with rfl|rfl
  ·exact ⟨by show 0<=4+2*((p.gen+1)%2);omega,by show 4+2*((p.gen+1)%2)≠_;omega⟩
  exact⟨by show 0<=4+2*((p.gen+1)%2)+1;omega,by show 4+2*((p.gen+1)%2)+1≠_;omega⟩
 simp only[Bx,mem_cons,not_mem_nil,or_false]at a
 subst a
 exact⟨by show 0<=(p.gen+1)%4;omega,λe=>d e.symm⟩
theorem ZE{p:Po}(a:PoN p)(b:p.gen≠4294967295):(0<=(GZ p).gen/\(GZ p).gen<4294967296)/\(0<=(GZ p).next/\(GZ p).next<4294967296)/\(0<=(GZ p).table/\(GZ p).table<4294967296):=by
 have:=a.gen
 exact⟨⟨by show 0<=p.gen+1;omega,by show p.gen+1<_;omega⟩,a.next,LD _⟩
theorem Rz{p:Po}(h:PoOk p)(a:PoN p)(b:p.gen≠4294967295):GZ p∈BD (Bn p).st 4:=by
 obtain⟨e,d,c⟩:=ZE a b
 exact wDh (QN h) e d c (TT h a)
set_option maxRecDepth 8000
variable{t:List By}
theorem wNf(h:t.length=256):EI t 0++EI t 1=t:=by
 unfold EI
 rw[show 128*0=0 from rfl,List.drop_zero,List.take_of_length_le (l:=t.drop (128*1)) (by rw[length_drop];omega)]
 exact take_append_drop 128 t
variable{k:Nat}
theorem Y5{p:Po}(h:PoOk p)(d:PoN p)(hk:(k:Int)=4+2*((p.gen+1)%2)):seen (Bn p).st k++seen (Bn p).st (k+1)=p.st.now:=by
 have l:=d.gen
 have c:∀j:Nat,4<=j->∀w∈Bx p 2,0<=w.1/\w.1≠(j:Int):=λj b w a=>by
  simp only[Bx,mem_cons,not_mem_nil,or_false]at a
  subst a
  exact⟨by show 0<=(p.gen+1)%4;omega,by show (p.gen+1)%4≠_;omega⟩
 have i:(AW p.st.blocks p.st.waits).length=256:=by rw[F1];exact h.st.1.1
 have e:∀j:Nat,4<=j->seen (Bn p).st j=(((AW p.st.blocks p.st.waits).set k (EI p.st.now 0)).set (k+1) (EI p.st.now 1)).getD j []:=λj b=>by
  show (AW (AW (AW p.st.blocks p.st.waits) (Bx p 1)) (Bx p 2)).getD j []=_
  rw[EY _ j _ (c j b)]
  show (((AW p.st.blocks p.st.waits).set (4+2*((p.gen+1)%2)).toNat (EI p.st.now 0)).set (4+2*((p.gen+1)%2)+1).toNat (EI p.st.now 1)).getD j []=_
  rw[<-hk,show ((k:Int)+1).toNat=k+1 by omega,Int.toNat_natCast]
 rw[e k (by omega),e (k+1) (by omega)]
 have g:(((AW p.st.blocks p.st.waits).set k (EI p.st.now 0)).set (k+1) (EI p.st.now 1)).getD k []=EI p.st.now 0:=by
  rw[getD,List.getElem?_set_ne (by omega),List.getElem?_set_self (by omega)];rfl
 have f:(((AW p.st.blocks p.st.waits).set k (EI p.st.now 0)).set (k+1) (EI p.st.now 1)).getD (k+1) []=EI p.st.now 1:=by
  rw[getD,List.getElem?_set_self (by rw[List.length_set];omega)];rfl
 rw[g,f];exact wNf h.st.2.1.1
theorem MV{p:Po}(h:PoOk p)(a:PoN p):Cv (Bn p).st (p.gen+1)=p.st.now:=by
 have b:=a.gen
 exact Y5 h a (k:=(4+2*((p.gen+1)%2)).toNat) (by omega)
theorem RG{p:Po}(h:PoOk p)(a:PoN p):CP (Bn p).st (GZ p)=Bn p:=by
 unfold CP
 rw[show (GZ p).gen=p.gen+1 from rfl,MV h a]
 rfl
theorem KD{p:Po}(h:EX p=0)(b:PoN p):TryOk (Bn p).st (GZ p):=by
 have a:=(Ea h).1
 refine⟨?_,?_,?_⟩
 ·rw [show (GZ p).gen=p.gen+1 from rfl,MV a b];exact a.st.2.1
 ·rw [show (GZ p).gen=p.gen+1 from rfl,MV a b];rfl
 rw[RG a b];exact wKi h b
theorem wEe{p:Po}(h:EX p=0)(b:PoN p){x:Su}(f:x∈BD (Bn p).st 4)(g:∀z∈BD (Bn p).st 4,x.gen<z.gen->¬TryOk (Bn p).st z)(j:x.gen<=p.gen+1):CP (Bn p).st x=Bn p/\x=GZ p:=by
 obtain⟨a,c⟩:=Ea h
 have d:=Rz a b c
 have l:¬x.gen<(GZ p).gen:=λi=>g _ d i (KD h b)
 have k:(GZ p).gen=p.gen+1:=rfl
 have e:x=GZ p:=TH f d (by omega)
 exact⟨by rw[e];exact RG a b,e⟩
theorem Lo{s t:Sto}(h:∀k,k<4->seen s k=seen t k):BD s 4=BD t 4:=by
 have e:∀k,k<4->D6 s k=D6 t k:=λk a=>by unfold D6;rw[h k a]
 show ([0,1,2,3]:List Nat).filterMap (D6 s)=([0,1,2,3]:List Nat).filterMap (D6 t)
 simp only[List.filterMap_cons,e 0 (by decide),e 1 (by decide),e 2 (by decide),e 3 (by decide),List.filterMap_nil]
end Go.Proofs.YtdahhoicackcaaaGreat
