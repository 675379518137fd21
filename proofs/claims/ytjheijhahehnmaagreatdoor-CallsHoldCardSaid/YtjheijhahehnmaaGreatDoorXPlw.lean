/- Lemmas. -/
import Derived.Test.YtjheijhahehnmaaGreatDoorXPut
namespace Go.Proofs.YtjheijhahehnmaaGreatDoor
open List (map_cons sum_cons flatMap_cons getD count_cons_self count_cons_of_ne append_assoc mem_cons_of_mem length_take getElem_take getElem_mem length_cons append_nil take_append_drop length_drop)
set_option linter.unusedSimpArgs false
set_option linter.unusedVariables false
set_option linter.unusedSectionVars false
set_option maxRecDepth 8000
open Go.RowKit
def Bu(s:Sto)(n:Nat):List Int:=match Ag s n with|some (_,ys)=>ys.map (·.ref)|none=>[]
def wS(s:Sto)(S:List Nat)(k:Int):Nat:=(S.map λn=>(Bu s n).count k).sum
variable{lv:Int}{n:Nat}{s:Sto}{ys:List It}
theorem CB(h:Ag s n=some (lv,ys)):Bu s n=ys.map (·.ref):=by unfold Bu;rw[h]
theorem EG(h:Ag s n=none):Bu s n=[]:=by unfold Bu;rw[h]
theorem sum_le{α:Type}{f g:α->Nat}:∀{l:List α},(∀x∈l,f x<=g x)->(l.map f).sum<=(l.map g).sum
 |[],_=>lR
 |x::l,h=>by
  have h1:=h x (by simp);have h2:=sum_le (l:=l) (f:=f) (g:=g) λy hy=>h y (by simp[hy]);simp only[map_cons,sum_cons];omega
theorem Za{α:Type}{f:α->Nat}:∀{l:List α}{x:α},x∈l->f x<=(l.map f).sum
 |y::l,x,h=>by
  simp only[map_cons,sum_cons];rcases List.mem_cons.1 h with rfl|h
  ·omega
  have:=Za (f:=f) h;omega
variable{α:Type}{f:α->Nat}{l:List α}
theorem Tf{g:α->Nat}(h:∀x∈l,f x=g x):(l.map f).sum=(l.map g).sum:=by rw[List.map_congr_left h]
theorem Td{g:α->Nat}{x:α}:∀{l:List α},l.Nodup->x∈l->(∀y∈l,y≠x->f y=g y)->(l.map f).sum+g x=(l.map g).sum+f x
 |y::l,c,h,b=>by
  obtain⟨i,d⟩:=List.nodup_cons.1 c;simp only[map_cons,sum_cons];by_cases e:y=x
  ·subst e;have:=Tf (l:=l) (f:=f) (g:=g) λz a=>b z (by simp[a]) λe=>i (e▸a);omega
  have:=Td d ((List.mem_cons.1 h).resolve_left (Ne.symm e)) λz a=>b z (by simp[a]);have:=b y (by simp) e;omega
variable{S:List Nat}
theorem Ke{x:It}(b:n∈S)(h:Ag s n=some (lv,ys))(a:x∈ys):0<wS s S x.ref:=by
 have d:=Za (f:=λn=>(Bu s n).count x.ref) b;have c:0<(Bu s n).count x.ref:=by rw[CB h];exact List.count_pos_iff.2 (List.mem_map_of_mem a)
 exact Nat.lt_of_lt_of_le c d
structure En(s:Sto)(S:List Nat)(R:List Int):Prop where
 ok:Au s
 nodup:S.Nodup
 enough:∀k:Int,0<k->k<256->wS s S k+R.count k=(s.now.getD k.toNat 0).toNat
 disj:∀n∈S,∀ys,Ag s n=some (0,ys)->∀x∈ys,x.ref≠0->x.ref.toNat∉S
 closed:∀n∈S,∀lv ys,Ag s n=some (lv,ys)->0<lv->∀x∈ys,x.ref.toNat∈S/\∃zs,Ag s x.ref.toNat=some (lv-1,zs)
variable{R:List Int}
theorem En.less{R':List Int}(h:En s S R)(b:∀k,0<k->R'.count k=R.count k):En s S R':=
 ⟨h.ok,h.nodup,λk a c=>by have:=h.enough k a c;have:=b k a;omega,h.disj,h.closed⟩
theorem En.perm{R':List Int}(h:En s S R)(a:R.Perm R'):En s S R':=h.less λk _=>by rw[a.count_eq]
variable{b:By}
theorem FP(h:0<b.toNat):¬b=0:=λe=>by rw[e]at h;exact aD h (by decide)
variable{k:Int}
theorem En.live(h:En s S R)(b:0<k)(a:k<256)(hk:0<wS s S k+R.count k):¬s.now.getD k.toNat 0=0:=by
 have:=h.enough k b a;exact FP (by omega)
structure ExtB(s t:Sto):Prop where
 nd:∀n r,Ag s n=some r->Ag t n=some r
 live:∀k,¬s.now.getD k 0=0->¬t.now.getD k 0=0
theorem ExtB.refl(s:Sto):ExtB s s:=⟨λ_ _ h=>h,λ_ h=>h⟩
theorem ExtB.trans{t u:Sto}(h:ExtB s t)(k:ExtB t u):ExtB s u:=⟨λn r e=>k.nd n r (h.nd n r e),λn e=>k.live n (h.live n e)⟩
theorem ExtB.shp{t:Sto}(h:ExtB s t):∀{l:Nat}{xs:List It},Shp s l xs->Shp t l xs/\Ax t l xs=Ax s l xs
 |0,xs,b=>⟨λx a=>(b x a).imp id (h.live _),by rw[Ci,Ci]⟩
 |l+1,xs,b=>by
  have c:∀x∈xs,(∃ys,Ag t x.ref.toNat=some ((l:Int),ys)/\ys≠[]/\Bw ys=x.key/\Shp t l ys)/\Ba t (l+1) x=Ba s (l+1) x:=λx a=>by
   obtain⟨ys,e,n,m,k⟩:=b x a;obtain⟨i,g⟩:=h.shp k;have d:=h.nd _ _ e;exact⟨⟨ys,d,n,m,i⟩,by rw[Bf d,Bf e,g]⟩
  refine⟨λx a=>(c x a).1,?_⟩;unfold Ax;clear b;induction xs with
  |nil=>rfl
  |cons x xs f=>rw[flatMap_cons,flatMap_cons,(c x (by simp)).2,f λy j=>c y (by simp[j])]
structure Thin(s t:Sto):Prop where
 waits:t.waits=s.waits
 blocks:t.blocks=s.blocks
 last:t.last=s.last
 now:∀n,(t.now.getD n 0).toNat<=(s.now.getD n 0).toNat
theorem Thin.refl(s:Sto):Thin s s:=⟨rfl,rfl,rfl,λ_=>lR⟩
theorem Thin.trans{t u:Sto}(h:Thin s t)(k:Thin t u):Thin s u:=⟨k.waits.trans h.waits,k.blocks.trans h.blocks,k.last.trans h.last,λn=>Nat.le_trans (k.now n) (h.now n)⟩
theorem Thin.nd{t:Sto}(h:Thin s t)(a:¬t.now.getD n 0=0):Ag t n=Ag s n:=by
 have c:¬s.now.getD n 0=0:=λe=>by
  have:=h.now n;rw[e]at this;exact a (UInt8.toNat.inj (by have d:(0:By).toNat=0:=rfl;omega))
 have b:seen t n=seen s n:=by unfold seen;rw[h.waits,h.blocks]
 unfold Ag;rw[iN a,iN c,b]
theorem Thin.nd_or{t:Sto}(h:Thin s t)(n:Nat):Ag t n=Ag s n\/Ag t n=none:=by
 by_cases a:t.now.getD n 0=0
 ·right;unfold Ag;rw[iP a]
 exact .inl (h.nd a)
theorem B4{r:Int×List It}(h:Ag s n=some r):¬s.now.getD n 0=0:=Tt h
theorem wJn(h:En s S R){r:Int×List It}(a:Ag s n=some r):n<256:=Classical.byContradiction λc=>by
 have b:s.now.length=256:=h.ok.2.1.1
 exact B4 a (by simp[getD,show s.now.length<=n by omega])
theorem Thin.shp{t:Sto}(h:Thin s t)(i:En t S R):∀{l:Nat}{xs:List It},Shp s l xs->(∀x∈xs,(0<l->x.ref.toNat∈S/\Ag t x.ref.toNat≠none)/\(l=0->x.ref≠0->¬t.now.getD x.ref.toNat 0=0))->Shp t l xs/\Ax t l xs=Ax s l xs
 |0,xs,f,d=>⟨λx a=>(Classical.em (x.ref=0)).imp id ((d x a).2 rfl),by rw[Ci,Ci]⟩
 |l+1,xs,f,d=>by
  have a:∀x∈xs,(∃ys,Ag t x.ref.toNat=some ((l:Int),ys)/\ys≠[]/\Bw ys=x.key/\Shp t l ys)/\Ba t (l+1) x=Ba s (l+1) x:=λx a=>by
   obtain⟨ys,k,D,C,B⟩:=f x a;obtain⟨j,w⟩:=(d x a).1 (by omega);have c:Ag t x.ref.toNat=some ((l:Int),ys):=by
    rcases h.nd_or x.ref.toNat with e|e
    ·rw [e];exact k
    exact aD e w
   have g:=Ar c;obtain⟨o,n⟩:=h.shp i B λy b=>⟨λz=>by
    obtain⟨F,zs,E⟩:=i.closed _ j _ _ c (by omega) y b;exact⟨F,by rw[E];simp⟩,λz u=>by
    have:=g.ref y b;exact i.live (by omega) (by omega) (by have:=Ke j c b;omega)⟩
   exact⟨⟨ys,c,D,C,o⟩,by rw[Bf c,Bf k,n]⟩
  refine⟨λx h=>(a x h).1,?_⟩;unfold Ax;clear f d;induction xs with
  |nil=>rfl
  |cons x xs m=>rw[flatMap_cons,flatMap_cons,(a x (by simp)).2,m λy b=>a y (by simp[b])]
variable{xs:List By}
theorem A5{k:Nat}{v:By}(h:k<xs.length):(xs.set k v).getD k 0=v:=by simp[getD,h]
theorem N1(h:¬b=0):(b-1).toNat+1=b.toNat:=by have:=TS h;omega
theorem EK(s:Sto){k:Nat}(hk:k<s.now.length)(h:¬s.now.getD k 0=0):Thin s (AM s k):=⟨rfl,rfl,rfl,λn=>by
 show ((s.now.set k _).getD n 0).toNat<=_
 by_cases e:n=k
 ·subst e;rw[A5 hk];have:=N1 h;omega
 rw[AJ e];exact lR⟩
theorem En.loose(h:En s S (k::R))(hk:8<=k/\k<256)(w:0<wS s S k+R.count k\/k.toNat∉S):Cg s k.toNat=0/\¬s.now.getD k.toNat 0=0/\En (AM s k.toNat) S R:=by
 have M:s.now.length=256:=h.ok.2.1.1;have G:=h.enough k (by omega) hk.2;rw[count_cons_self]at G;have o:¬s.now.getD k.toNat 0=0:=FP (by omega);have d:=EK s (show k.toNat<s.now.length by omega) o;have E:=N1 o;have c:∀n∈S,Ag (AM s k.toNat) n=Ag s n:=λn b=>by
  by_cases e:n=k.toNat
  ·subst e;refine d.nd ?_;show ¬(s.now.set k.toNat _).getD k.toNat 0=0;rw[A5 (by omega)];rcases w with w|w
   ·exact FP (by omega)
   exact aD b w
  unfold Ag;have J:(AM s k.toNat).now.getD n 0=s.now.getD n 0:=by show (s.now.set k.toNat _).getD n 0=_;exact AJ e
  have I:seen (AM s k.toNat) n=seen s n:=rfl;rw[J,I]
 refine⟨iN o,o,CU h.ok (by omega),h.nodup,λj H m=>?_,λn b ys C=>h.disj n b ys (by rw[<-c n b];exact C),λn b lv ys i l x u=>?_⟩
 ·have z:=h.enough j H m;have N:wS (AM s k.toNat) S j=wS s S j:=Tf λn b=>by unfold Bu;rw[c n b]
  show _=((s.now.set k.toNat _).getD j.toNat 0).toNat;by_cases e:j=k
  ·subst e;rw[count_cons_self]at z;rw[A5 (by omega)];omega
  rw[AJ (by omega)];rw[count_cons_of_ne (Ne.symm e)]at z;omega
 have y:=B4 i;have a:Ag s n=some (lv,ys):=by rw[<-d.nd y];exact i
 obtain⟨K,zs,B⟩:=h.closed n b lv ys a l x u;refine⟨K,zs,?_⟩;have g:=Ar a;have L:=g.ref x u;have F:=g.up l x u;have D:=Ke b a u;have f:¬(AM s k.toNat).now.getD x.ref.toNat 0=0:=by
  show ¬(s.now.set k.toNat _).getD x.ref.toNat 0=0;by_cases e:x.ref=k
  ·rw [e]at D⊢;rw[A5 (by omega)];exact FP (by omega)
  rw[AJ (by omega)];exact B4 B
 rw[d.nd f];exact B
theorem wDm(h:En s S (k::R))(hk:8<=k/\k<256)(i:0<wS s S k+R.count k):ExtB s (AM s k.toNat):=by
 have j:s.now.length=256:=h.ok.2.1.1;have g:=h.enough k (by omega) hk.2;rw[count_cons_self]at g;have d:¬s.now.getD k.toNat 0=0:=FP (by omega);have c:=EK s (show k.toNat<s.now.length by omega) d;have f:=N1 d;have a:∀n,¬s.now.getD n 0=0->¬(AM s k.toNat).now.getD n 0=0:=λn b=>by
  show ¬(s.now.set k.toNat _).getD n 0=0;by_cases e:n=k.toNat
  ·subst e;rw[A5 (by omega)];exact FP (by omega)
  rw[AJ e];exact b
 exact⟨λn r b=>by rw[c.nd (a n (B4 b))];exact b,a⟩
theorem DS(s:Sto)(k:Nat):Thin s (AS s k):=⟨rfl,rfl,rfl,λn=>by
 show ((s.now.set k 0).getD n 0).toNat<=_
 by_cases e:n=k
 ·subst e
  rcases Nat.lt_or_ge n s.now.length with h|h
  ·rw [A5 h];exact zL
  rw[List.set_eq_of_length_le h];exact lR
 rw[AJ e];exact lR⟩
theorem En.clear(h:En s S (k::R))(hk:8<=k/\k<256)(P:s.now.getD k.toNat 0=1)(M:k.toNat∈S)(D:Ag s k.toNat=some (lv,ys)):
  En (AS s k.toNat) S (ys.map (·.ref)++R)/\wS s S k=0/\R.count k=0:=by
 have X:s.now.length=256:=h.ok.2.1.1;have m:=DS s k.toNat;have F:=h.enough k (by omega) hk.2;rw[count_cons_self,P]at F;have O:(1:By).toNat=1:=rfl;have B:wS s S k=0:=by omega
 have E:R.count k=0:=by omega
 have b:Ag (AS s k.toNat) k.toNat=none:=by
  unfold Ag;rw[iP];show (s.now.set k.toNat 0).getD k.toNat 0=0;exact A5 (by omega)
 have c:∀n,n≠k.toNat->Ag (AS s k.toNat) n=Ag s n:=λn e=>by
  unfold Ag;have F:(AS s k.toNat).now.getD n 0=s.now.getD n 0:=by show (s.now.set k.toNat _).getD n 0=_;exact AJ e
  have U:seen (AS s k.toNat) n=seen s n:=rfl;rw[F,U]
 refine⟨⟨E7 h.ok (by omega),h.nodup,λj T u=>?_,λn y zs z=>h.disj n y zs (by
  by_cases e:n=k.toNat
  ·rw [e,b]at z;cases z
  rw[<-c n e];exact z),λn y l zs d o x w=>?_⟩,B,E⟩
 ·have N:=h.enough j T u;have Y:wS (AS s k.toNat) S j+(ys.map (·.ref)).count j=wS s S j:=by
   have G:=Td (f:=λn=>(Bu (AS s k.toNat) n).count j) (g:=λn=>(Bu s n).count j) h.nodup M (λn _ e=>by unfold Bu;rw[c n e]);rw[EG b,CB D]at G;unfold wS;simpa using G
  rw[List.count_append];show _=((s.now.set k.toNat 0).getD j.toNat 0).toNat;by_cases e:j=k
  ·subst e;have Q:(0:By).toNat=0:=rfl;rw[A5 (by omega)];omega
  rw[AJ (by omega)];rw[count_cons_of_ne (Ne.symm e)]at N;omega
 have C:=B4 d;have a:Ag s n=some (l,zs):=by rw[<-m.nd C];exact d
 obtain⟨V,I,H⟩:=h.closed n y l zs a o x w;refine⟨V,I,?_⟩;have W:=(Ar a).ref x w;have K:=(Ar a).up o x w;have J:=Ke y a w;have L:x.ref≠k:=λe=>by rw[e]at J;omega
 have i:¬(AS s k.toNat).now.getD x.ref.toNat 0=0:=by
  show ¬(s.now.set k.toNat 0).getD x.ref.toNat 0=0;rw[AJ (by omega)];exact B4 H
 rw[m.nd i];exact H
theorem Kv:∀{ys:List It}{s:Sto},En s S (ys.map (·.ref)++R)->(∀y∈ys,y.ref=0\/(8<=y.ref/\y.ref<256)/\y.ref.toNat∉S)->∃t,CW ys s=some t/\En t S R/\Thin s t/\Dy t.now<=Dy s.now
 |[],s,h,_=>⟨s,rfl,h,Thin.refl s,lR⟩
 |y::ys,s,h,b=>by
  rw[CW];by_cases d:y.ref=0
  ·rw [iP d];exact Kv (h.less λk e=>by rw[map_cons,List.cons_append,count_cons_of_ne (by omega)]) λz a=>b z (by simp[a])
  obtain⟨e,c⟩:=(b y (by simp)).resolve_left d;have o:s.now.length=256:=h.ok.2.1.1;obtain⟨m,f,l⟩:=En.loose (k:=y.ref) (R:=ys.map (·.ref)++R) h e (.inr c);rw[iN d,iP m];obtain⟨t,j,i,g,n⟩:=Kv l λz a=>b z (by simp[a]);refine⟨t,j,i,(EK s (by omega) f).trans g,?_⟩;have:=Fu (s:=s) (k:=y.ref.toNat) (by omega) f;omega
structure LvJ(first:List By)(s:Sto)(S:List Nat)(R:List Int)(st:List (Int×Int)):Prop where
 en:En s S (st.map (·.1)++R)
 st:∀p∈st,(8<=p.1/\p.1<256)/\p.1.toNat∈S/\∃lv ys,Ag s p.1.toNat=some (lv,ys)/\(p.2<0\/lv=p.2)
 first:∀n,(s.now.getD n 0).toNat<=(first.getD n 0).toNat
theorem LvJ.thin{first:List By}{t:Sto}{st:List (Int×Int)}(d:En t S (st.map (·.1)++R))(b:∀p∈st,(8<=p.1/\p.1<256)/\p.1.toNat∈S/\∃lv ys,Ag s p.1.toNat=some (lv,ys)/\(p.2<0\/lv=p.2))(f:∀n,(s.now.getD n 0).toNat<=(first.getD n 0).toNat)(a:Thin s t):LvJ first t S R st:=by
 refine⟨d,λp c=>?_,λn=>Nat.le_trans (a.now n) (f n)⟩;obtain⟨e,i,lv,ys,h,g⟩:=b p c;refine⟨e,i,lv,ys,?_,g⟩;have j:0<(st.map (·.1)++R).count p.1:=List.count_pos_iff.2 (List.mem_append_left _ (List.mem_map_of_mem c));rw[a.nd (d.live (by omega) e.2 (by omega))];exact h
theorem JB{first:List By}:∀{f:Nat}{s:Sto}{st:List (Int×Int)},LvJ first s S R st->Dy s.now<=f->∃t,L5 first f s st=some t/\En t S R/\Thin s t
 |f,s,[],h,_=>⟨s,by cases f<;>rfl,h.en,Thin.refl s⟩
 |f,s,(k,l)::st,h,Z=>by
  obtain⟨I,J,lv,ys,a,i⟩:=h.st (k,l) (by simp);dsimp only at I J a i;have Y:s.now.length=256:=h.en.ok.2.1.1;have b:En s S (k::(st.map (·.1)++R)):=h.en;have L:=b.enough k (by omega) I.2;rw[count_cons_self]at L;have H:¬s.now.getD k.toNat 0=0:=FP (by omega);have M:=Pz H;obtain⟨f,rfl⟩:∃T,f=T+1:=⟨f-1,by omega⟩;have j:∀p∈st,(8<=p.1/\p.1<256)/\p.1.toNat∈S/\∃lv ys,Ag s p.1.toNat=some (lv,ys)/\(p.2<0\/lv=p.2):=λp m=>h.st p (by simp[m]);by_cases z:s.now.getD k.toNat 0=1
  ·obtain ⟨N,c2,c3⟩:=b.clear I z J a;rw[Ex H z a];have g:¬first.getD k.toNat 0=0:=λe=>by
    have:=h.first k.toNat;rw[e,z]at this;exact aD this (by decide)
   rw[iN (λh=>h.elim g λh=>i.elim (λh=>by omega) h.2)];have c:=Ar a;have E:=FD (s:=s) (k:=k.toNat) (by omega) (by rw[z];rfl);by_cases d:0<lv
   ·rw [iP d];have F:(EI lv ys++st).map (·.1)=ys.map (·.ref)++st.map (·.1):=by
     rw[List.map_append];unfold EI;rw[List.map_map];rfl
    have G:LvJ first (AS s k.toNat) S R (EI lv ys++st):=by
     refine LvJ.thin (s:=s) (by rw[F,append_assoc];exact N) (λp m=>?_) h.first (DS s k.toNat);rcases mA m with m|m
     ·obtain ⟨y,w,rfl⟩:=List.mem_map.1 m;obtain⟨W,zs,V⟩:=b.closed _ J _ _ a d y w;have:=c.ref y w;have:=c.up d y w;exact⟨by show 8<=y.ref/\y.ref<256;omega,W,lv-1,zs,V,.inr rfl⟩
     exact j p m
    obtain⟨t,C,B,o⟩:=JB G (f:=f) (by omega);exact⟨t,C,B,(DS s k.toNat).trans o⟩
   rw[iN d];have n:lv=0:=by have:=c.lev;omega
   obtain⟨t,C,B,o,X⟩:=Kv N λy w=>by
    by_cases K:y.ref=0
    ·exact .inl K
    exact .inr ⟨(c.ref y w).resolve_left K,b.disj _ J ys (by rw[a,n]) y w K⟩
   rw[C];have G:LvJ first t S R st:=LvJ.thin (s:=s) B j h.first ((DS s k.toNat).trans o)
   obtain⟨u,Q,P,O⟩:=JB G (f:=f) (by omega);exact⟨u,Q,P,(DS s k.toNat).trans (o.trans O)⟩
  obtain⟨_,_,U⟩:=b.loose I (.inl (by
   have:(s.now.getD k.toNat 0).toNat≠1:=λe=>z (UInt8.toNat.inj e);omega))
  rw[Pa H z];have D:=EK s (show k.toNat<s.now.length by omega) H;have E:=Fu (s:=s) (k:=k.toNat) (by omega) H;have G:LvJ first (AM s k.toNat) S R st:=LvJ.thin (s:=s) U j h.first D
  obtain⟨t,C,B,o⟩:=JB G (f:=f) (by omega);exact⟨t,C,B,D.trans o⟩
theorem GX{root:Int}(h:En s S (root::R))(hk:8<=root/\root<256)(c:root.toNat∈S)(a:Ag s root.toNat=some (lv,ys)):∃t,leave s root=some t/\En t S R/\Thin s t:=
 JB ⟨h,λp b=>by rw[mS b];exact⟨hk,c,lv,ys,a,.inl (by show (-1:Int)<0;omega)⟩,λ_=>lR⟩ (lR)
variable{b:By}
theorem wTq(h:¬b=255):(b+1).toNat=b.toNat+1:=by have:=X1 h;omega
variable{k:Nat}{s:Sto}
theorem GO(hk:k<s.now.length)(h:¬s.now.getD k 0=255)(n:Nat):((A7 s k).now.getD n 0).toNat=(s.now.getD n 0).toNat+(if n=k then 1 else 0):=by
 show ((s.now.set k _).getD n 0).toNat=_;by_cases e:n=k
 ·subst e;rw[A5 hk,wTq h,iP rfl]
 rw[AJ e,iN e];rfl
theorem KZ(h:¬s.now.getD k 0=0):(Bj s k=0/\¬s.now.getD k 0=255)\/(Bj s k=70):=by
 unfold Bj;rw[iN h];by_cases a:s.now.getD k 0=255
 ·rw [iP a];exact .inr rfl
 rw[iN a];exact .inl ⟨rfl,a⟩
theorem Jo:∀{xs:List It}{s:Sto},s.now.length=256->(∀x∈xs,x.ref=0\/(8<=x.ref/\x.ref<256/\¬s.now.getD x.ref.toNat 0=0))->(RU s xs=0/\∀k:Nat,0<k->((Ai s xs).now.getD k 0).toNat=(s.now.getD k 0).toNat+(xs.map (·.ref)).count (k:Int))\/RU s xs=70
 |[],s,_,_=>.inl ⟨rfl,λk _=>by show _=_+0;rfl⟩
 |x::xs,s,u,j=>by
  have l:Ai s (x::xs)=Ai (if x.ref=0 then s else A7 s x.ref.toNat) xs:=rfl;rw[RU,l];by_cases f:x.ref=0
  ·rw [iP f,iP f];rcases Jo (xs:=xs) u (λy i=>j y (mem_cons_of_mem _ i))with⟨d,n⟩|d
   ·refine .inl ⟨d,λk m=>?_⟩;rw[n k m,map_cons,count_cons_of_ne (by omega)]
   exact .inr d
  obtain⟨D,w,z⟩:=(j x (by simp)).resolve_left f;rw[iN f,iN f];rcases KZ z with⟨B,h⟩|g
  ·rw [iP B];have o:=GO (s:=s) (k:=x.ref.toNat) (by omega) h;rcases Jo (xs:=xs) (s:=A7 s x.ref.toNat) (by rw[GP];exact u) (λy i=>(j y (by simp[i])).imp id λ⟨a,b,c⟩=>⟨a,b,FP (by
    have:=o y.ref.toNat;have C:(s.now.getD y.ref.toNat 0).toNat≠0:=λe=>c (UInt8.toNat.inj e);omega)⟩)with⟨d,n⟩|d
   ·refine .inl ⟨d,λk m=>?_⟩;rw[n k m,o k,map_cons,List.count_cons];have:(x.ref==(k:Int))=decide (k=x.ref.toNat):=by
     by_cases e:k=x.ref.toNat
     ·rw [dT e];simp;omega
     rw[dF e];simp;omega
    rw[this];by_cases e:k=x.ref.toNat
    ·rw [iP e,dT e];simp;omega
    rw[iN e,dF e];simp
   exact .inr d
  rw[iN (by rw[g];decide),g];exact .inr rfl
theorem wDh(h:BD s<256):HX s (BD s):=by
 have:∀(f k:Nat),HZ s f k<k+f->HX s (HZ s f k):=by
  intro f;induction f with
  |zero=>intro k h;rw[HZ]at h;omega
  |succ f a=>
   intro k h
   rw[HZ]at h⊢
   split
   ·assumption
   rename_i b
   rw[iN b]at h
   exact a (k+1) (by omega)
 exact this 248 8 h
variable{lv:Int}{xs:List It}
theorem wJu(f:Au s)(y:Cx lv xs=true)(hk:∀x∈xs,Bh x.key)(c:∀x∈xs,x.ref≠0->¬s.now.getD x.ref.toNat 0=0)(R:Ku s lv xs=0):
  (8<=BD (Ai s xs)/\BD (Ai s xs)<256)/\s.now.getD (BD (Ai s xs)) 0=0/\(xs.map (·.ref)).count ((BD (Ai s xs):Nat):Int)=0/\(∀n,Ag (Ew s lv xs) n=if n=BD (Ai s xs)then some (lv,xs)else Ag s n)/\
   ∀k:Nat,0<k->k≠BD (Ai s xs)->((Ew s lv xs).now.getD k 0).toNat=(s.now.getD k 0).toNat+(xs.map (·.ref)).count (k:Int):=by
 have l:=GW R f.1.2.1;have E:=NdOk.of y;have K:s.now.length=256:=f.2.1.1;have u:∀x∈xs,x.ref=0\/(8<=x.ref/\x.ref<256/\¬s.now.getD x.ref.toNat 0=0):=λx o=>by
  by_cases C:x.ref=0
  ·exact .inl C
  have:=E.ref x o;exact .inr ⟨by omega,by omega,c x o C⟩
 have m:∀k:Nat,0<k->((Ai s xs).now.getD k 0).toNat=(s.now.getD k 0).toNat+(xs.map (·.ref)).count (k:Int):=by
  rcases Jo K u with⟨_,h⟩|h
  ·exact h
  rw[l.2.1]at h;cases h
 obtain⟨a,B⟩:∃a,a=BD (Ai s xs):=⟨_,rfl⟩;have S:8<=a:=by rw[B];exact LG _ _ _
 have z:a<256:=by rw[B];exact l.2.2.1
 have d:=(wDh (s:=Ai s xs) l.2.2.1).1;rw[<-B]at d⊢;have G:=m a (by omega);rw[d]at G;have T:(0:By).toNat=0:=rfl;have P:s.now.getD a 0=0:=UInt8.toNat.inj (by omega);have H:(xs.map (·.ref)).count (a:Int)=0:=by omega
 obtain⟨O,N,V,M⟩:=CA s xs;have g:Ew s lv xs=LY (Ai s xs) a (J3 lv xs):=by unfold Ew;rw[<-B]
 have i:∀k,k≠a->(Ew s lv xs).now.getD k 0=(Ai s xs).now.getD k 0:=λk hk=>by
  rw[g];show ((Ai s xs).now.set a 1).getD k 0=_;exact AJ hk
 refine⟨⟨S,z⟩,P,H,λn=>?_,λk C hk=>by rw[i k hk];exact m k C⟩;by_cases e:n=a
 ·subst e;rw[iP rfl];unfold Ag;rw[iN (by rw[g];show ¬((Ai s xs).now.set n 1).getD n 0=0;rw[A5 (by omega)];decide)];have D:seen (Ew s lv xs) n=J3 lv xs:=by
   rw[g];unfold seen;show (match (((Ai s xs).waits++[((n:Int),J3 lv xs)]).reverse.find? λw=>w.1==(n:Int))with|some w=>w.2|none=>_)=_;rw[List.reverse_append,List.reverse_singleton,List.singleton_append,List.find?_cons_of_pos (by simp)]
  rw[D];exact wRp y hk
 rw[iN e];have D:seen (Ew s lv xs) n=seen s n:=by
  rw[g];unfold seen;show (match (((Ai s xs).waits++[((a:Int),J3 lv xs)]).reverse.find? λw=>w.1==(n:Int))with|some w=>w.2|none=>(Ai s xs).blocks.getD n [])=_;rw[List.reverse_append,List.reverse_singleton,List.singleton_append,List.find?_cons_of_neg (by simp;omega),N,M];rfl
 unfold Ag;rw[D,i n e];by_cases F:n=0
 ·subst F;have z1:(Ai s xs).now.getD 0 0=0:=by
   have I:=(RT f.2.1 (λx o=>(u x o).imp id λh=>⟨h.1,h.2.1⟩)).2;have J:(Ai s xs).now.length=256:=O.trans K;have:=List.all_eq_true.1 I ((Ai s xs).now.getD 0 0) (by
    rw[show (Ai s xs).now.getD 0 0=((Ai s xs).now.take 8)[0]'(by rw[length_take];omega)by rw[getElem_take,D4 (by omega)]];exact getElem_mem _)
   simpa using this
  have z2:s.now.getD 0 0=0:=by
   have I:=f.2.1.2;have:=List.all_eq_true.1 I (s.now.getD 0 0) (by
    rw[show s.now.getD 0 0=(s.now.take 8)[0]'(by rw[length_take];omega)by rw[getElem_take,D4 (by omega)]];exact getElem_mem _)
   simpa using this
  rw[z1,z2]
 have:=m n (by omega);by_cases b:s.now.getD n 0=0
 ·have L:(xs.map (·.ref)).count (n:Int)=0:=by
   rw[List.count_eq_zero];intro Q;obtain⟨x,o,U⟩:=List.mem_map.1 Q;have:=c x o (by omega);rw[U,tN]at this;exact this b
  have j:(Ai s xs).now.getD n 0=0:=UInt8.toNat.inj (by rw[b]at this;omega);rw[iP j,iP b]
 have j:¬(Ai s xs).now.getD n 0=0:=FP (by
  have:(s.now.getD n 0).toNat≠0:=λe=>b (UInt8.toNat.inj e);omega)
 rw[iN j,iN b]
def Apa(s:Sto)(S S':List Nat):Prop:=∀n,¬s.now.getD n 0=0->n∉S->n∉S'
def Sub(s:Sto)(S S':List Nat):Prop:=∀n∈S,Ag s n≠none->n∈S'
variable{R:List Int}{S:List Nat}
theorem En.make(h:En s S R)(O:lv=0->∀x∈xs,x.ref≠0->x.ref.toNat∉S)(E:Cx lv xs=true)(hk:∀x∈xs,Bh x.key)(M:0<lv->∀x∈xs,x.ref.toNat∈S/\∃zs,Ag s x.ref.toNat=some (lv-1,zs))(j:∀x∈xs,x.ref≠0->¬s.now.getD x.ref.toNat 0=0)(V:Ku s lv xs=0):
  ∃S',En (Ew s lv xs) S' (((BD (Ai s xs):Nat):Int)::R)/\BD (Ai s xs)∈S'/\Sub s S S'/\ExtB s (Ew s lv xs)/\Ag (Ew s lv xs) (BD (Ai s xs))=some (lv,xs)/\(8<=BD (Ai s xs)/\BD (Ai s xs)<256)/\Apa s S S':=by
 obtain⟨Z,C,aa,g,y⟩:=wJu h.ok E hk j V;have F:=GW V h.ok.1.2.1;generalize W:BD (Ai s xs)=a at *;have hl:s.now.length=256:=h.ok.2.1.1;have b:Ag s a=none:=by unfold Ag;rw[iP C]
 have l:ExtB s (Ew s lv xs):=by
  refine⟨λn r i=>?_,λk o=>?_⟩
  ·rw [g n,iN (λe=>by rw[e,b]at i;cases i)];exact i
  have P:k≠a:=λe=>by rw[e]at o;exact o C
  by_cases Q:k=0
  ·subst Q;have h9:=h.ok.2.1.2;have:=List.all_eq_true.1 h9 (s.now.getD 0 0) (by
    rw[show s.now.getD 0 0=(s.now.take 8)[0]'(by rw[length_take];omega)by rw[getElem_take,D4 (by omega)]];exact getElem_mem _)
   exact aD (by simpa using this) o
  have:=y k (by omega) P;have:(s.now.getD k 0).toNat≠0:=λe=>o (UInt8.toNat.inj e);exact FP (by omega)
 have H:Ag (Ew s lv xs) a=some (lv,xs):=by rw[g a,iP rfl]
 have w:∀{x:Int},x≠0->¬s.now.getD x.toNat 0=0->x.toNat∉S->x.toNat∉a::S.filter (· ≠a):=λ{x} d D L z=>by
  rcases List.mem_cons.1 z with e|z
  ·rw [e]at D;exact D C
  exact L (List.mem_filter.1 z).1
 refine⟨a::S.filter (· ≠a),⟨HN h.ok E (by rw[W];exact F.2.2.1) F.2.2.2,List.nodup_cons.2 ⟨by simp,h.nodup.filter _⟩,λk h0 I=>?_,λn i ys c x u d=>?_,λn i K ys c G x u=>?_⟩,by simp,λn i f=>?_,l,H,Z,λn h1 h2 z=>(List.mem_cons.1 z).elim (λe=>h1 (by rw[e];exact C)) λz=>h2 (List.mem_filter.1 z).1⟩
 ·have e1:wS (Ew s lv xs) (a::S.filter (· ≠a)) k=(xs.map (·.ref)).count k+wS s S k:=by
   show ((a::S.filter (· ≠a)).map λn=>(Bu (Ew s lv xs) n).count k).sum=_;rw[map_cons,sum_cons,CB H];have J:((S.filter (· ≠a)).map λn=>(Bu (Ew s lv xs) n).count k).sum=((S.filter (· ≠a)).map λn=>(Bu s n).count k).sum:=Tf λn i=>by
    have N:n≠a:=by simpa using (List.mem_filter.1 i).2
    unfold Bu;rw[g n,iN N]
   have X:∀S:List Nat,((S.filter (· ≠a)).map λn=>(Bu s n).count k).sum=(S.map λn=>(Bu s n).count k).sum:=λS=>by
    induction S with
    |nil=>rfl
    |cons n S U=>
     by_cases e:n=a
     ·rw [List.filter_cons_of_neg (by simp[e]),U,map_cons,sum_cons,e,EG b];simp
     rw[List.filter_cons_of_pos (by simp[e]),map_cons,sum_cons,U,map_cons,sum_cons]
   have X:=X S;unfold wS;omega
  have e4:=h.enough k h0 I;by_cases e:k=(a:Int)
  ·subst e;rw[tN,C]at e4;have ac:(0:By).toNat=0:=rfl;rw[count_cons_self,tN];have:(Ew s lv xs).now.getD a 0=1:=by
    show ((Ai s xs).now.set (BD (Ai s xs)) 1).getD a 0=1;rw[W];exact A5 (by rw[(CA s xs).1];omega)
   rw[this];have ab:(1:By).toNat=1:=rfl;omega
  rw[count_cons_of_ne (Ne.symm e),y k.toNat (by omega) (by omega),show ((k.toNat:Nat):Int)=k by omega];omega
 ·rw [g n]at c;by_cases e:n=a
  ·rw [iP e]at c;cases c;exact w d (j x u d) (O rfl x u d)
  rw[iN e]at c;have m:n∈S:=(List.mem_cons.1 i).elim (λh=>aD h e) λh=>(List.mem_filter.1 h).1;have Y:=(Ar c).ref x u;exact w d (h.live (by omega) (by omega) (by have:=Ke m c u;omega)) (h.disj n m ys c x u d)
 ·rw [g n]at c;by_cases e:n=a
  ·rw [iP e]at c;cases c;obtain⟨T,zs,B⟩:=M G x u;have f:x.ref.toNat≠a:=λJ=>by rw[J,b]at B;cases B
   exact⟨mem_cons_of_mem _ (List.mem_filter.2 ⟨T,by simpa using f⟩),zs,l.nd _ _ B⟩
  rw[iN e]at c;have m:n∈S:=(List.mem_cons.1 i).elim (λh=>aD h e) λh=>(List.mem_filter.1 h).1;obtain⟨T,zs,B⟩:=h.closed n m K ys c G x u;have f:x.ref.toNat≠a:=λJ=>by rw[J,b]at B;cases B
  exact⟨mem_cons_of_mem _ (List.mem_filter.2 ⟨T,by simpa using f⟩),zs,l.nd _ _ B⟩
 exact mem_cons_of_mem _ (List.mem_filter.2 ⟨i,by
  have:n≠a:=λe=>by rw[e]at f;exact f b
  simpa using this⟩)
theorem ZB(c:Au s)(b:Cx lv xs=true)(a:∀x∈xs,x.ref≠0->¬s.now.getD x.ref.toNat 0=0):Ku s lv xs=0\/Ku s lv xs=9\/Ku s lv xs=70:=by
 have d:=NdOk.of b;unfold Ku;rw[iP b];rcases Jo (xs:=xs) c.2.1.1 (λx e=>by
  by_cases f:x.ref=0
  ·exact .inl f
  have:=d.ref x e;exact .inr ⟨by omega,by omega,a x e f⟩)with⟨h,_⟩|h
 ·rw [iP h];split
  ·exact .inr (.inl rfl)
  exact .inl rfl
 rw[iN (by rw[h];decide),h];exact .inr (.inr rfl)
def Made(t:Sto)(S:List Nat)(lv:Int):List It->List (List It)->Prop
 |[],[]=>True
 |y::ys,p::ps=>(Ag t y.ref.toNat=some (lv,p)/\y.ref.toNat∈S/\y.key=Bw p/\y.val=[]/\8<=y.ref/\y.ref<256)/\Made t S lv ys ps
 |_,_=>False
variable{S':List Nat}
theorem Made.mono{t:Sto}(a:ExtB s t)(hs:Sub s S S'):∀{ys:List It}{ps:List (List It)},Made s S lv ys ps->Made t S' lv ys ps
 |[],[],_=>trivial
 |y::ys,p::ps,⟨⟨b,d,c⟩,h⟩=>⟨⟨a.nd _ _ b,hs _ d (by rw[b];simp),c⟩,Made.mono a hs h⟩
theorem Made.len{t:Sto}:∀{ys:List It}{ps:List (List It)},Made t S lv ys ps->ys.length=ps.length
 |[],[],_=>rfl
 |y::ys,p::ps,⟨_,h⟩=>by rw[length_cons,length_cons,h.len]
structure Fit(s:Sto)(S:List Nat)(lv:Int)(p:List It):Prop where
 ok:Cx lv p=true
 key:∀x∈p,Bh x.key
 up:0<lv->∀x∈p,x.ref.toNat∈S/\∃zs,Ag s x.ref.toNat=some (lv-1,zs)
 live:∀x∈p,x.ref≠0->¬s.now.getD x.ref.toNat 0=0
 leaf:lv=0->∀x∈p,x.ref≠0->x.ref.toNat∉S
theorem Fit.mono{t:Sto}{p:List It}(h:Fit s S lv p)(f:ExtB s t)(hs:Sub s S S')(g:Apa s S S'):Fit t S' lv p:=
 ⟨h.ok,h.key,λe x c=>by obtain⟨a,zs,b⟩:=h.up e x c;exact⟨hs _ a (by rw[b];simp),zs,f.nd _ _ b⟩,λx c d=>f.live _ (h.live x c d),λe x c d=>g _ (h.live x c d) (h.leaf e x c d)⟩
theorem Apa.refl(s:Sto)(S:List Nat):Apa s S S:=λ_ _ h=>h
theorem Apa.trans{t:Sto}{a:List Nat}(h:Apa s S S')(c:ExtB s t)(k:Apa t S' a):Apa s S a:=λn b d=>k n (c.live n b) (h n b d)
theorem Sub.trans{t:Sto}{b:List Nat}(h:Sub s S S')(e:ExtB s t)(k:Sub t S' b):Sub s S b:=λn d a=>k n (h n d a) (by
 cases c:Ag s n with
 |none=>exact aD c a
 |some r=>rw[e.nd _ _ c];simp)
theorem ZA:∀{ps:List (List It)}{s:Sto}{S:List Nat}{R:List Int}{up0:List It},En s S R->(∀p∈ps,Fit s S lv p)->
  (∃e,Tu lv ps s up0=.error e/\(e=9\/e=70))\/∃t S' a,Tu lv ps s up0=.ok (t,up0++a)/\En t S' (a.map (·.ref)++R)/\Sub s S S'/\ExtB s t/\t.waits.length=s.waits.length+ps.length/\Made t S' lv a ps/\Apa s S S'
 |[],s,S,R,up0,h,_=>.inr ⟨s,S,[],by rw[Tu,append_nil],h,λn z _=>z,ExtB.refl s,rfl,trivial,Apa.refl s S⟩
 |p::ps,s,S,R,up0,h,j=>by
  have b:=j p (by simp);rw[Tu];rcases ZB h.ok b.ok b.live with e|e
  ·rw [iP e];obtain⟨S1,C,B,m,c,l,E,k⟩:=h.make b.leaf b.ok b.key b.up b.live e;rcases ZA (up0:=up0++[WR s p]) C (λq y=>(j q (mem_cons_of_mem _ y)).mono c m k)with⟨D,f,d⟩|⟨t,S',a,f,d,i,g,w,u,o⟩
   ·exact .inl ⟨D,f,d⟩
   refine .inr ⟨t,S',WR s p::a,by rw[f,append_assoc];rfl,d.perm ?_,m.trans c i,c.trans g,?_,⟨⟨?_,?_,rfl,rfl,?_,?_⟩,u⟩,k.trans c o⟩
   ·exact List.perm_middle
   ·rw [w,XH,length_cons];omega
   ·show Ag t ((BD (Ai s p):Nat):Int).toNat=_;rw[tN];exact g.nd _ _ l
   ·show ((BD (Ai s p):Nat):Int).toNat∈S';rw[tN];exact i _ B (by rw[l];simp)
   ·show (8:Int)<=((BD (Ai s p):Nat):Int);omega
   show ((BD (Ai s p):Nat):Int)<256;omega
  rw[iN (by rcases e with e|e<;>rw[e]<;>decide)];exact .inl ⟨_,rfl,e⟩
theorem ExtB.wS_le{t:Sto}(h:ExtB s t)(S:List Nat)(k:Int):wS s S k<=wS t S k:=sum_le λn _=>by
 cases a:Ag s n with
 |none=>rw[EG a];exact zL
 |some r=>obtain⟨lv,ys⟩:=r;rw[CB a,CB (h.nd _ _ a)];exact lR
theorem Qc:∀{hs:List It}{s:Sto},En s S (hs.map (·.ref)++R)->(∀y∈hs,y.ref=0\/(8<=y.ref/\y.ref<256/\0<wS s S y.ref))->∃t,JW hs s=.ok t/\En t S R/\ExtB s t/\t.waits=s.waits
 |[],s,h,_=>⟨s,rfl,h,ExtB.refl s,rfl⟩
 |y::ys,s,h,f=>by
  rw[JW];by_cases g:y.ref=0
  ·rw [iP g];exact Qc (h.less λk C=>by rw[map_cons,List.cons_append,count_cons_of_ne (by omega)]) λz e=>f z (by simp[e])
  obtain⟨j,d,B⟩:=(f y (by simp)).resolve_left g;obtain⟨w,D,u⟩:=En.loose (k:=y.ref) (R:=ys.map (·.ref)++R) h ⟨j,d⟩ (.inl (by omega));have i:=wDm (k:=y.ref) (R:=ys.map (·.ref)++R) h ⟨j,d⟩ (by omega);rw[iN g,iP w];obtain⟨t,o,n,m,l⟩:=Qc u λz e=>(f z (by simp[e])).imp id λ⟨a,b,c⟩=>⟨a,b,Nat.lt_of_lt_of_le c (i.wS_le S _)⟩;exact⟨t,o,n,i.trans m,l⟩
theorem Vt{t:Sto}:∀{ys:List It}{ps:List (List It)},Made t S lv ys ps->∀p∈ps,∀x∈p,0<wS t S x.ref
 |[],[],_,p,a,_,_=>by cases a
 |y::ys,q::ps,⟨⟨d,c,_⟩,h⟩,p,a,x,b=>by
  rcases List.mem_cons.1 a with rfl|a
  ·exact Ke c d b
  exact Vt h p a x b
theorem PV(l:List It):(Bl l).flatten=l:=by
 unfold Bl;split
 ·simp [take_append_drop]
 simp
variable{l:List It}
theorem wFp{held:List It}(h:En s S (held.map (·.ref)++R))(K:∀p∈Bl l,Fit s S lv p)(J:∀y∈held,y.ref=0\/(8<=y.ref/\y.ref<256/\∃x∈l,x.ref=y.ref)):
  (∃e,build s lv l held=.error e/\(e=9\/e=70))\/∃t S' d,build s lv l held=.ok (t,d)/\En t S' (d.map (·.ref)++R)/\Sub s S S'/\ExtB s t/\t.waits.length=s.waits.length+(Bl l).length/\Made t S' lv d (Bl l)/\Apa s S S':=by
 unfold build;rcases ZA (up0:=[]) h K with⟨e,i,g⟩|⟨t,S',c,i,g,F,E,D,m,C⟩
 ·rw [i];exact .inl ⟨e,rfl,g⟩
 rw[i,List.nil_append];have f:En t S' (held.map (·.ref)++(c.map (·.ref)++R)):=g.perm (List.perm_append_comm_assoc _ _ _);obtain⟨u,B,z,k,w⟩:=Qc f λy G=>(J y G).imp id λ⟨a,b,x,o,e⟩=>⟨a,b,by
  rw[<-PV l]at o;obtain⟨p,H,j⟩:=List.mem_flatten.1 o;rw[<-e];exact Vt m p H x j⟩
 refine .inr ⟨u,S',c,?_,z,F,E.trans k,by rw[w];exact D,m.mono k λn I _=>I,C⟩;show (match JW held t with|.error e=>_|.ok t2=>_)=_;rw[B]
theorem wRc{k:Ky}:∀(p:Option Ky),(∀q,p=some q->Ap q k=true)->(match p with|none=>true|some q=>Ap q k)=true
 |none,_=>rfl
 |some q,h=>h q rfl
theorem Qs{ab:Bool}:∀{xs:List It}{p:Option Ky},(∀x∈xs,Bv x=false/\(ab=true->x.ref≠0/\x.val=[]))->Srt xs->(∀q,p=some q->∀x∈xs,Ap q x.key=true)->BL ab p xs=true
 |[],_,_,_,_=>rfl
 |x::xs,p,h,hs,hp=>by
  have h2:=List.pairwise_cons.1 hs;obtain⟨h3,h4⟩:=h x (by simp);have ih:=Qs (ab:=ab) (xs:=xs) (p:=some x.key) (λy hy=>h y (mem_cons_of_mem _ hy)) h2.2 (λq e y hy=>by cases e;exact h2.1 y hy);have hk:=wRc (k:=x.key) p (λq e=>hp q e x (by simp));have ha:(!ab||(x.ref != 0&&x.val.length==0))=true:=by
   cases ab with
   |false=>rfl
   |true=>obtain⟨a,b⟩:=h4 rfl;simp[a,b]
  unfold BL;rw[Bool.and_eq_true,Bool.and_eq_true,Bool.and_eq_true];exact⟨⟨⟨by rw[h3];rfl,hk⟩,ha⟩,ih⟩
variable{S':List Nat}{l:Nat}
theorem Vu{t u:Sto}(i:ExtB t u):∀{c:List It}{ps:List (List It)},Made u S' (l:Int) c ps->(∀p∈ps,p≠[]/\Shp t l p/\∀x∈p,Bh x.key)->
  Shp u (l+1) c/\Ax u (l+1) c=Ax t l ps.flatten/\∀y∈c,y.val=[]/\(8<=y.ref/\y.ref<256)/\y.ref.toNat∈S'/\Bh y.key
 |[],[],_,_=>⟨λx a=>(by cases a),rfl,λy s=>(by cases s)⟩
 |y::ys,p::ps,⟨⟨k,D,j,C,B⟩,h⟩,g=>by
  obtain⟨b,f,e⟩:=g p (by simp);obtain⟨o,n,m⟩:=Vu i h λq w=>g q (mem_cons_of_mem _ w);obtain⟨F,E⟩:=i.shp f;refine⟨λx a=>?_,?_,λz d=>?_⟩
  ·rcases List.mem_cons.1 a with rfl|a
   ·exact ⟨p,k,b,j.symm,F⟩
   exact o x a
  ·rw [Dq,Bf k,n,E,List.flatten_cons,A3]
  rcases List.mem_cons.1 d with rfl|d
  ·refine ⟨C,B,D,?_⟩;rw[j];obtain⟨z,zs,rfl⟩:=List.exists_cons_of_ne_nil b;exact e z (by simp)
  exact m z d
theorem wCf{l p:List It}(h:p∈Bl l):p.Sublist l/\(l.length<=6->p.length<=5):=by
 unfold Bl at h;split at h
 ·simp only[List.mem_cons,List.not_mem_nil,or_false]at h;rcases h with rfl|rfl
  ·exact ⟨List.take_sublist _ _,λ_=>by rw[length_take];omega⟩
  exact⟨List.drop_sublist _ _,λ_=>by rw[length_drop];omega⟩
 rw[mS h];exact⟨List.Sublist.refl _,λ_=>by omega⟩
variable{R:List Int}{S1:List Nat}{l':List It}
theorem P4{t:Sto}{held:List It}(V:l<6)(m:l'≠[])(n:l'.length<=6)(d:Shp t l l')(k:Srt (Ax t l l'))(f:∀y∈l',Bv y=false/\Bh y.key/\(0<l->y.ref≠0/\y.val=[]/\y.ref.toNat∈S1))
  (B:l=0->∀y∈l',y.ref≠0->y.ref.toNat∉S1) (S:En t S1 (held.map (·.ref)++R)) (Q:∀y∈held,y.ref=0\/(8<=y.ref/\y.ref<256/\∃x∈l',x.ref=y.ref)):
  (∃e,build t (l:Int) l' held=.error e/\(e=9\/e=70))\/∃u S' j,build t (l:Int) l' held=.ok (u,j)/\En u S' (j.map (·.ref)++R)/\Sub t S1 S'/\ExtB t u/\u.waits.length=t.waits.length+(Bl l').length/\Shp u (l+1) j/\(∀y∈j,y.val=[]/\(8<=y.ref/\y.ref<256)/\y.ref.toNat∈S'/\Bh y.key)/\Ax u (l+1) j=Ax t l l'/\j.length=(Bl l').length/\Apa t S1 S':=by
 have z:=Jl d k;have o:∀p∈Bl l',Fit t S1 (l:Int) p:=λp s=>by
  obtain⟨i,C⟩:=Gn s;obtain⟨U,T⟩:=wCf s;refine⟨?_,λx g=>(f x (i x g)).2.1,λP x g=>?_,λx g D=>?_,λe x g D=>B (by omega) x (i x g) D⟩
  ·unfold Cx;rw[Bool.and_eq_true];refine⟨decide_eq_true ⟨by omega,by omega,T n,λ_ e=>C m (List.eq_nil_of_length_eq_zero e)⟩,Qs (λx g=>⟨(f x (i x g)).1,λe=>?_⟩) (List.Pairwise.sublist U z) (λq e=>by cases e)⟩;have:=oT e;obtain⟨a,b,_⟩:=(f x (i x g)).2.2 (by omega);exact⟨a,b⟩
  ·obtain ⟨_,_,c⟩:=(f x (i x g)).2.2 (by omega);obtain⟨w,rfl⟩:∃w,l=w+1:=⟨l-1,by omega⟩;obtain⟨ys,E,_⟩:=d x (i x g);exact⟨c,ys,by rw[E];congr 2;omega⟩
  cases l with
  |zero=>exact(d x (i x g)).resolve_left D
  |succ w=>obtain⟨ys,E,_⟩:=d x (i x g);exact B4 E
 rcases wFp S o Q with h|⟨u,S',j,O,N,M,H,L,G,K⟩
 ·exact .inl h
 obtain⟨J,F,I⟩:=Vu H G λp s=>by
  obtain⟨i,C⟩:=Gn s;exact⟨C m,d.sub i,λx g=>(f x (i x g)).2.1⟩
 rw[PV]at F;exact .inr ⟨u,S',j,O,N,M,H,L,J,I,F,G.len,K⟩
variable{i j:Nat}{xs:List It}
theorem PC(h:Srt xs)(c:i<xs.length)(b:j<xs.length)(a:i<j):Ap xs[i].key xs[j].key=true:=List.pairwise_iff_getElem.1 h i j c b a
variable{k:Nat}{α:Type}
theorem FT{xs:List α}{z:α}(h:z∈xs.drop k):∃j,∃b:j<xs.length,k<=j/\xs[j]=z:=by
 obtain⟨i,a,e⟩:=List.getElem_of_mem h;rw[length_drop]at a;exact⟨k+i,by omega,by omega,by rw[<-e,List.getElem_drop]⟩
theorem wPv{xs:List α}(a:j<xs.length)(h:j<k):xs[j]∈xs.take k:=by
 have:j<(xs.take k).length:=by rw[length_take];omega
 have e:(xs.take k)[j]=xs[j]:=getElem_take;rw[<-e];exact getElem_mem this
theorem Pl{xs:List α}(a:j<xs.length)(h:k<=j):xs[j]∈xs.drop k:=by
 have:j-k<(xs.drop k).length:=by rw[length_drop];omega
 have e:(xs.drop k)[j-k]=xs[j]:=by rw[List.getElem_drop];congr 1;omega
 rw[<-e];exact getElem_mem this
theorem Qt{q:Ky}(h:Fy xs q=true):∃a:place xs q<xs.length,xs[place xs q].key=q:=by
 have a:=E1 h;refine⟨a,?_⟩;unfold Fy at h;have:=oT h;rw[List.getElem?_eq_getElem a]at this;exact Option.some.inj this
theorem wSj{q:Ky}(h:Fy xs q=false)(a:place xs q<xs.length):xs[place xs q].key≠q:=λe=>by
 unfold Fy at h
 have:=oF h
 rw[List.getElem?_eq_getElem a]at this
 exact this (by rw[Option.map_some,e])
theorem wGc{q:Ky}(hs:Srt xs)(a:BJ xs q<xs.length)(b:0<BJ xs q):L6 xs[BJ xs q].key q:=by
 unfold BJ at a b⊢;by_cases h:Fy xs q=true
 ·simp only[h,if_true]at a⊢;obtain⟨_,e⟩:=Qt h;rw[e];exact Fv _
 simp only[h,if_false,Bool.false_eq_true]at a b⊢;exact Kw ((Dd hs).1 _ (wPv a (by omega)))
theorem wGd{q:Ky}(hs:Srt xs):∀z∈xs.drop (BJ xs q+1),Ap q z.key=true:=λz k=>by
 obtain⟨j,c,a,rfl⟩:=FT k
 unfold BJ at a
 by_cases h:Fy xs q=true
 ·simp only[h,if_true]at a
  obtain⟨l,e⟩:=Qt h
  have:=PC hs l c (by omega)
  rwa[e]at this
 simp only[h,if_false,Bool.false_eq_true]at a
 have f:L6 q xs[j].key:=(Dd hs).2 _ (Pl c (by omega))
 rcases Sn f with e|e
 ·exfalso
  have b:place xs q<xs.length:=by omega
  by_cases d:j=place xs q
  ·subst d
   exact wSj (by simpa using h) c e.symm
  have i:=PC hs b c (by omega)
  rw[<-e]at i
  have g:=(Dd (q:=q) hs).2 _ (Pl b (lR))
  rw[i]at g;cases g
 exact e
variable{s:Sto}
theorem wJd{z:It}(h:Shp s l [z])(hs:Srt (Ba s l z)):∀y∈Ba s l z,L6 z.key y.key:=λy a=>by
 obtain⟨d,r,c,b⟩:=PZ h
 rw[c]at a hs
 rw[<-b]
 rcases List.mem_cons.1 a with rfl|a
 ·exact Fv _
 exact Kw ((List.pairwise_cons.1 hs).1 y a)
theorem ED{p:Nat}(a:p<xs.length):xs=xs.take p++[xs[p]]++xs.drop (p+1):=by
 rw[append_assoc,List.singleton_append,<-List.drop_eq_getElem_cons a,take_append_drop]
theorem wPk{x:It}(c:Shp s l xs)(b:Srt (Ax s l xs))(j:BJ xs x.key<xs.length):C5 x (Ax s l xs)=Ax s l (xs.take (BJ xs x.key))++C5 x (Ba s l xs[BJ xs x.key])++Ax s l (xs.drop (BJ xs x.key+1)):=by
 have m:=Jl c b;have e:=ED j;have F:Ax s l xs=Ax s l (xs.take (BJ xs x.key))++Ba s l xs[BJ xs x.key]++Ax s l (xs.drop (BJ xs x.key+1)):=by
  conv=>lhs;rw[e]
  rw[A3,A3,Dg]
 rw[F]at b⊢;have u:=List.pairwise_append.1 b;have C:=List.pairwise_append.1 u.1;refine LC (λy d=>?_) (λy d=>?_)
 ·have D:0<BJ xs x.key:=Nat.pos_of_ne_zero λG=>by rw[G]at d;simp[Ax]at d
  obtain⟨a,w,E⟩:=Lg (c.one (x:=xs[BJ xs x.key]) (getElem_mem j));have o:=C.2.2 y d a w;rw[E]at o;exact Qh o (wGc m j D)
 obtain⟨z,g,h⟩:=List.mem_flatMap.1 d;have f:z∈xs:=List.mem_of_mem_drop g;have i:Srt (Ba s l z):=by
  obtain⟨A,B,k⟩:=List.append_of_mem g;have n:=u.2.1;rw[k,A3,Dq]at n;exact(List.pairwise_append.1 (List.pairwise_append.1 n).2.1).1
 exact Qh (wGd m z g) (wJd (c.one f) i y h)
theorem wHd{x:It}(hs:Srt xs):Fe ⟨0,xs,place xs x.key⟩ x.key [x]=C5 x xs/\(Fy xs x.key=true->DA ⟨0,xs,place xs x.key⟩ x.key=1):=by
 obtain⟨m,w⟩:=Dd (q:=x.key) hs;have i:∀y:It,y.key=x.key->C5 x [y]=[x]:=λy e=>by
  unfold C5;rw[List.filter_cons_of_neg (by rw[e,XP];decide),List.filter_cons_of_neg (by rw[e,XP];decide)];rfl
 have b:C5 x []=[x]:=rfl;by_cases c:place xs x.key<xs.length
 ·have u:xs.drop (place xs x.key)=xs[place xs x.key]::xs.drop (place xs x.key+1):=List.drop_eq_getElem_cons c;have l:∀y∈xs.drop (place xs x.key+1),Ap xs[place xs x.key].key y.key=true:=λy a=>by
   obtain⟨j,s,o,rfl⟩:=FT a;exact PC hs c s (by omega)
  by_cases g:xs[place xs x.key].key=x.key
  ·have f:DA ⟨0,xs,place xs x.key⟩ x.key=1:=by
    unfold DA;show (match xs[place xs x.key]? with|none=>0|some y=>if (0:Int)=0/\y.key≠x.key then 0 else 1)=1;rw[List.getElem?_eq_getElem c];exact iN λh=>h.2 g
   refine⟨?_,λ_=>f⟩;unfold Fe;rw[f];show xs.take _++[x]++xs.drop _=_;conv=>rhs;rw[ED c]
   rw[LC m (λy a=>by have:=l y a;rwa[g]at this),i _ g]
  have f:DA ⟨0,xs,place xs x.key⟩ x.key=0:=by
   unfold DA;show (match xs[place xs x.key]? with|none=>0|some y=>if (0:Int)=0/\y.key≠x.key then 0 else 1)=0;rw[List.getElem?_eq_getElem c];exact iP ⟨rfl,g⟩
  have k:Ap x.key xs[place xs x.key].key=true:=(Sn (show L6 x.key xs[place xs x.key].key from w _ (Pl c (lR)))).resolve_left λe=>g e.symm;refine⟨?_,λd=>by obtain⟨_,e⟩:=Qt d;exact aD e g⟩;unfold Fe;rw[f];show xs.take _++[x]++xs.drop (place xs x.key)=_;have e:C5 x xs=C5 x (xs.take (place xs x.key)++[]++xs.drop (place xs x.key)):=by rw[append_nil,take_append_drop]
  rw[e,LC m (λy a=>?_),b];rw[u]at a;rcases List.mem_cons.1 a with rfl|a
  ·exact k
  exact Lp k (l y a)
 have n:xs.drop (place xs x.key)=[]:=List.drop_eq_nil_of_le (by omega);have f:DA ⟨0,xs,place xs x.key⟩ x.key=0:=by
  unfold DA;show (match xs[place xs x.key]? with|none=>0|some y=>if (0:Int)=0/\y.key≠x.key then 0 else 1)=0;rw[List.getElem?_eq_none (by omega)]
 refine⟨?_,λd=>aD (E1 d) c⟩;unfold Fe;rw[f];show xs.take _++[x]++xs.drop (place xs x.key)=_;have e:C5 x xs=C5 x (xs.take (place xs x.key)++[]++xs.drop (place xs x.key)):=by rw[append_nil,take_append_drop]
 rw[e,LC m (λy a=>by rw[n]at a;cases a),b]
def XN(ws:List Stp)(q:Ky):Bool:=match ws.getLast? with|some w=>Fy w.xs q|none=>false
def wUn(ws:List Stp)(q:Ky):Prop:=(∀w∈ws,¬w.xs.length<5)/\XN ws q=false
variable{lv:Int}
theorem Fq(h:Ag s k=some (lv,xs)):∀y∈xs,Bv y=false/\Bh y.key/\(0<lv->y.ref≠0/\y.val=[]):=λy d=>by
 have c:=Ar h
 obtain⟨a,b⟩:=B1 c.ok y d
 exact⟨a,HM h y d,λe=>b (by simpa using e)⟩
variable{y:It}
theorem WQ(h:y.val=[]/\(8<=y.ref/\y.ref<256)):Bv y=false:=by
 unfold Bv;rw[decide_eq_false];rw[h.1];simp;omega
variable{S:List Nat}
theorem ZN{x:It}(hx:Bv x=false)(W:Bh x.key)(T:x.ref≠0->¬s.now.getD x.ref.toNat 0=0)(U:x.ref≠0->x.ref.toNat∉S)(Y:En s S (x.ref::R)):∀(l:Nat)(xs:List It)(k:Nat),Ag s k=some ((l:Int),xs)->k∈S->Shp s l xs->Srt (Ax s l xs)->
  (∃e,Rp s x (AB s x.key l xs)=.error e/\(e=9\/e=70))\/∃t S' d,Rp s x (AB s x.key l xs)=.ok (t,d)/\En t S' (d.map (·.ref)++R)/\Sub s S S'/\ExtB s t/\t.waits.length<=s.waits.length+2*(l+1)/\Shp t (l+1) d/\(∀y∈d,y.val=[]/\(8<=y.ref/\y.ref<256)/\y.ref.toNat∈S'/\Bh y.key)/\Ax t (l+1) d=C5 x (Ax s l xs)/\0<d.length/\d.length<=2/\(d.length=2->wUn (AB s x.key l xs) x.key)/\Apa s S S'
 |0,xs,k,m,D,i,f=>by
  rw[Ci]at f;obtain⟨n,al⟩:=wHd (x:=x) f;have C:=Ar m;have z:=Fq m;have hg:Rp s x (AB s x.key 0 xs)=build s 0 (C5 x xs) [x]:=by
   rw[<-n];rfl
  have j:∀y∈C5 x xs,y∈xs\/y=x:=λy c=>by
   unfold C5 at c;rcases mA c with c|c
   ·exact .inl (List.mem_filter.1 c).1
   rcases List.mem_cons.1 c with c|c
   ·exact .inr c
   exact .inl (List.mem_filter.1 c).1
  have F:x∈C5 x xs:=List.mem_append_right _ (by simp);have o:(C5 x xs).length<=6/\((C5 x xs).length=6->xs.length=5/\Fy xs x.key=false):=by
   have ai:=C.len;have g:=HH xs x.key;have E:(C5 x xs).length=(xs.take (place xs x.key)).length+1+(xs.drop (place xs x.key+DA ⟨0,xs,place xs x.key⟩ x.key)).length:=by
    rw[<-n];unfold Fe;simp only[List.length_append];rfl
   rw[length_take,length_drop]at E;refine⟨by omega,λh6=>⟨by omega,?_⟩⟩;cases hb:Fy xs x.key with
   |false=>rfl
   |true=>have h1:=al hb;have M:=E1 hb;omega
  have av:=oF (show decide _=false from hx);have L:=P4 (t:=s) (S1:=S) (R:=R) (l:=0) (l':=C5 x xs) (held:=[x]) (by omega) (List.ne_nil_of_mem F) o.1 (λy c=>(j y c).elim (λh=>i y h) (λh=>by rw[h];exact(Classical.em (x.ref=0)).imp id T)) (by rw[Ci];exact LB f)
   (λy c=>⟨(j y c).elim (λh=>(z y h).1) (λh=>by rw[h];exact hx),(j y c).elim (λh=>(z y h).2.1) (λh=>by rw[h];exact W),λh=>aD h (by omega)⟩) (λ_ y c h0=>(j y c).elim (λh=>Y.disj k D xs m y h h0) (λh=>by rw[h]at h0 ⊢;exact U h0)) Y
   (λy c=>by
    rw[mS c]
    by_cases h0:x.ref=0
    ·exact .inl h0
    exact .inr ⟨by omega,by omega,x,F,rfl⟩)
  rw[hg];rcases L with h|⟨u,S',d,Q,P,k3,k4,k5,k6,k7,k8,J,K⟩
  ·exact .inl h
  have g:=Gp (C5 x xs);have ac:u.waits.length<=s.waits.length+2:=by rw[k5,g];split<;>omega
  refine .inr ⟨u,S',d,Q,P,k3,k4,by omega,k6,k7,by rw[k8,Ci,Ci],?_,?_,λM=>?_,K⟩
  ·rw [J,g];split<;>omega
  ·rw [J,g];split<;>omega
  rw[J,g]at M;have h6:(C5 x xs).length=6:=by
   have:=o.1;by_cases h5:5<(C5 x xs).length
   ·omega
   rw[iN h5]at M;omega
  obtain⟨a,b⟩:=o.2 h6;refine⟨λw N=>?_,b⟩;rw[show AB s x.key 0 xs=[⟨0,xs,place xs x.key⟩]from rfl]at N;rw[mS N];show ¬xs.length<5;omega
 |l+1,xs,k,m,D,i,f=>by
  have C:=Ar m;have ah:=FR m (by omega);have O:=Hw (q:=x.key) ah;have z:=Fq m;obtain⟨ys,B,au,aq,ad⟩:=i _ (getElem_mem O);obtain⟨ak,_⟩:=Y.closed k D _ _ m (by omega) _ (getElem_mem O);have X:kid s xs[BJ xs x.key]=ys:=by unfold kid;rw[B]
  have V:AB s x.key (l+1) xs=⟨((l+1:Nat):Int),xs,BJ xs x.key⟩::AB s x.key l ys:=by
   rw[AB,List.getElem?_eq_getElem O];show _::AB s x.key l (kid s xs[BJ xs x.key])=_;rw[X]
  have H:=wPk i f O;have ag:Srt (Ax s l ys):=by
   have e:=ED O;rw[e,A3,A3,Dg]at f;have:=(List.pairwise_append.1 (List.pairwise_append.1 f).1).2.1;rwa[Bf B]at this
  rw[Bf B]at H;have hm:DA ⟨((l+1:Nat):Int),xs,BJ xs x.key⟩ x.key=1:=by
   unfold DA;show (match xs[BJ xs x.key]? with|none=>0|some y=>if ((l+1:Nat):Int)=0/\y.key≠x.key then 0 else 1)=1;rw[List.getElem?_eq_getElem O];exact iN λh=>by omega
  rw[V];rcases ZN hx W T U Y l ys _ B ak ad ag with⟨e,h1,M⟩|⟨t,S1,d,h1,M,h3,Z,h5,h6,h7,h8,h9,ax,ao,am⟩
  ·exact .inl ⟨e,by rw[Rp,h1],M⟩
  have aj:Rp s x (⟨((l+1:Nat):Int),xs,BJ xs x.key⟩::AB s x.key l ys)=build t ((l+1:Nat):Int) (Fe ⟨((l+1:Nat):Int),xs,BJ xs x.key⟩ x.key d) d:=by rw[Rp,h1]
  rw[aj];have n:Fe ⟨((l+1:Nat):Int),xs,BJ xs x.key⟩ x.key d=xs.take (BJ xs x.key)++d++xs.drop (BJ xs x.key+1):=by
   unfold Fe;rw[hm]
  rw[n];obtain⟨a1,a2⟩:=Z.shp (i.sub (ys:=xs.take (BJ xs x.key)) λy c=>List.mem_of_mem_take c);obtain⟨c1,c2⟩:=Z.shp (i.sub (ys:=xs.drop (BJ xs x.key+1)) λy c=>List.mem_of_mem_drop c);have I:Ax t (l+1) (xs.take (BJ xs x.key)++d++xs.drop (BJ xs x.key+1))=C5 x (Ax s (l+1) xs):=by
   rw[A3,A3,a2,c2,h8,H]
  have j:∀y∈xs.take (BJ xs x.key)++d++xs.drop (BJ xs x.key+1),y∈xs\/y∈d:=λy c=>by
   rcases mA c with c|c
   ·rcases mA c with c|c
    ·exact .inl (List.mem_of_mem_take c)
    exact .inr c
   exact .inl (List.mem_of_mem_drop c)
  have o:(xs.take (BJ xs x.key)++d++xs.drop (BJ xs x.key+1)).length+1=xs.length+d.length:=by
   simp only[List.length_append,length_take,length_drop];omega
  have ai:=C.len;have G:∀y∈d,y∈xs.take (BJ xs x.key)++d++xs.drop (BJ xs x.key+1):=λy c=>List.mem_append_left _ (List.mem_append_right _ c);have L:=P4 (t:=t) (S1:=S1) (R:=R) (l:=l+1) (l':=xs.take (BJ xs x.key)++d++xs.drop (BJ xs x.key+1)) (held:=d) (by have:=C.lev;omega) (λe=>by
    obtain⟨y,c⟩:=List.exists_mem_of_length_pos h9;have:=G y c;rw[e]at this;cases this) (by omega) ((a1.app h6).app c1) (by rw[I];exact LB f)
   (λy c=>(j y c).elim (λh=>⟨(z y h).1,(z y h).2.1,λ_=>by
     obtain⟨b1,b2⟩:=(z y h).2.2 (by omega)
     obtain⟨d1,zs,d2⟩:=Y.closed k D _ _ m (by omega) y h
     exact⟨b1,b2,h3 _ d1 (by rw[d2];simp)⟩⟩) (λh=>by
     obtain⟨b1,b2,b3,b4⟩:=h7 y h
     exact⟨WQ ⟨b1,b2⟩,b4,λ_=>⟨by omega,b1,b3⟩⟩)) (λe=>aD e (by omega)) M
   (λy c=>.inr ⟨(h7 y c).2.1.1,(h7 y c).2.1.2,y,G y c,rfl⟩)
  rcases L with⟨e,Q,P⟩|⟨u,S',ab,Q,P,k3,k4,k5,k6,k7,k8,J,K⟩
  ·exact .inl ⟨e,Q,P⟩
  have g:=Gp (xs.take (BJ xs x.key)++d++xs.drop (BJ xs x.key+1));have ac:u.waits.length<=t.waits.length+2:=by rw[k5,g];split<;>omega
  refine .inr ⟨u,S',ab,Q,P,h3.trans Z k3,Z.trans k4,by omega,k6,k7,by rw[k8,I],?_,?_,λaa=>?_,am.trans Z K⟩
  ·rw [J,g];split<;>omega
  ·rw [J,g];split<;>omega
  rw[J,g]at aa;have aw:5<(xs.take (BJ xs x.key)++d++xs.drop (BJ xs x.key+1)).length:=Classical.byContradiction λh=>by rw[iN h]at aa;omega
  have af:d.length=2/\xs.length=5:=by omega
  obtain⟨f1,f2⟩:=ao af.1;refine⟨λw N=>?_,?_⟩
  ·rcases List.mem_cons.1 N with rfl|N
   ·show ¬xs.length<5;omega
   exact f1 w N
  unfold XN at f2⊢;have ae:AB s x.key l ys≠[]:=λe=>by have:=EY (s:=s) (q:=x.key) l ys;rw[e]at this;cases this
  obtain⟨w0,ap,e0⟩:=List.exists_cons_of_ne_nil ae;rw[e0]at f2⊢;rw[List.getLast?_cons_cons];exact f2
end Go.Proofs.YtjheijhahehnmaaGreatDoor
