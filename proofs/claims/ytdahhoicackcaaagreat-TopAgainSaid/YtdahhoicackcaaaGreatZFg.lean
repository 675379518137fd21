/- Plain laws: steps; each keeps a pool's counts. No statement of the seat is proved here. -/
import Derived.Test.YtdahhoicackcaaaGreatZFc
namespace Go.Proofs.YtdahhoicackcaaaGreat
open List (map_cons sum_cons foldl_cons cons_append append_assoc length_append)
set_option linter.unusedSimpArgs false
set_option linter.unusedVariables false
set_option linter.unusedSectionVars false
open Go.RowKit
set_option maxRecDepth 8000
variable{S:List Nat}{t:Sto}
theorem Fine.moved{p:Po}{i:List Nat}{hs d:List Int}(h:Fine p S hs)(hk:Oks p.st S t i ((p.root::d)++JX (allT p.st p.root)))(o:∀r∈d,(8<=r/\r<256)/\r.toNat∈S/\(fchk p.st r).2=0)(n:En t i ((p.root::d)++JX (allT p.st p.root)))(m:d.length<=40):
  Fine ⟨t,p.gen,p.root,p.next,d⟩ i []:=by
 have a:p.root∈AX p:=by rw[BF];simp
 have g:allT t p.root=allT p.st p.root:=(hk p.root (by simp) (h.ins _ a).2.1 (h.ins _ a).2.2).2.1
 have c:AX ⟨t,p.gen,p.root,p.next,d⟩=(p.root::d)++JX (allT p.st p.root):=by rw[BF];show (p.root::d)++JX (allT t p.root)=_;rw[g]
 refine⟨by rw[c];exact n,λr a=>?_,λx l=>?_,?_,m,h.next,h.gen⟩
 ·rw [c]at a
  have f:(8<=r/\r<256)/\r.toNat∈S/\(fchk p.st r).2=0:=by
   rcases List.mem_append.1 a with e|e
   ·rcases List.mem_cons.1 e with rfl|e
    ·exact h.ins _ (by rw[BF];simp)
    exact o r e
   exact h.ins _ (by rw[BF];exact List.mem_append_right _ e)
  obtain⟨k,_,j⟩:=hk r a f.2.1 f.2.2
  exact⟨f.1,j,by show (fchk t r).2=0;rw[k];exact f.2.2⟩
 ·have b:x∈allT t p.root:=l
  rw[g]at b;exact h.vol x b
 show (allT t p.root).length<=16;rw[g];exact h.few
variable{a:By}
theorem wHm{b:By}(h:Uh .u8 (a.toNat:Int) (b.toNat:Int)=0):a=0/\b=0:=by
 rw[Wb]at h
 exact(Kf a b).1 (UInt8.toNat.inj (by have c:(0:By).toNat=0:=rfl;omega))
variable{k:Nat}{l:List Nat}{s:Sto}
theorem wDd(h:frN s 256=k::l):s.now.getD k 0=0/\s.last.getD k 0=0:=by
 have b:k∈frN s 256:=by rw[h];simp
 unfold frN at b
 have a:=(List.mem_filter.1 b).2
 unfold JM at a
 rw[Bool.and_eq_true]at a
 exact wHm (of_decide_eq_true a.2)
variable{d:List By}
theorem ZC{k:Int}(h:DU s d=.ok (t,k)):∃n:Nat,k=(n:Int)/\(8<=n/\n<256)/\s.now.getD n 0=0/\s.last.getD n 0=0/\s.waits.length≠4096/\Aq s/\t=⟨s.blocks,s.waits++[((n:Int),d)],s.now.set n 1,s.last⟩:=by
 unfold DU at h
 split at h
 ·rename_i hs
  cases a:frN s 256 with
  |nil=>rw[a]at h;cases h
  |cons j l=>
   rw[a]at h
   by_cases b:s.waits.length=4096
   ·rw [show Nj s d (j::l)=.error 9 from if_pos b]at h;cases h
   rw[show Nj s d (j::l)=.ok (⟨s.blocks,s.waits++[((j:Int),d)],s.now.set j 1,s.last⟩,(j:Int))from if_neg b]at h
   cases h
   obtain⟨e,c⟩:=wDd a
   exact⟨j,rfl,Ro a,e,c,b,hs,rfl⟩
 cases h
theorem Uk{a:Nat}(h:Ai s a=none)(k:Int):wS s (S.filter (· ≠a)) k=wS s S k:=by
 unfold wS
 induction S with
 |nil=>rfl
 |cons n S b=>
  by_cases e:n=a
  ·rw [List.filter_cons_of_neg (by simp[e]),b,map_cons,sum_cons,e,EC h];simp
  rw[List.filter_cons_of_pos (by simp[e]),map_cons,sum_cons,b,map_cons,sum_cons]
theorem Rb{n:Nat}(e:n≠k):Ai ⟨s.blocks,s.waits++[((k:Int),d)],s.now.set k 1,s.last⟩ n=Ai s n:=by
 unfold Ai
 have b:(s.now.set k 1).getD n 0=s.now.getD n 0:=Az e
 have a:seen ⟨s.blocks,s.waits++[((k:Int),d)],s.now.set k 1,s.last⟩ n=seen s n:=by
  rw[ZO,if_neg (by show (k:Int)≠(n:Int);omega)];rfl
 rw[a]
 show (if (s.now.set k 1).getD n 0=0 then _ else _)=_
 rw[b]
theorem Fine.lay{p:Po}{k:Int}(h:Fine p S [])(O:d.length=128)(M:DU p.st d=.ok (t,k)):∃K,Fine (EE p t) K [k]/\k.toNat∉K:=by
 obtain⟨n,rfl,N,H,W,L,s,rfl⟩:=ZC M
 have V:p.st.now.length=256:=s.2.1.1
 have c:Ai p.st n=none:=by unfold Ai;rw[if_pos H]
 have f:En p.st S (AX p):=h.en
 have i:ExtB p.st ⟨p.st.blocks,p.st.waits++[((n:Int),d)],p.st.now.set n 1,p.st.last⟩:=by
  refine⟨λm r a=>?_,λm a=>?_⟩
  ·rw [Rb (λe=>by rw[e,c]at a;cases a)];exact a
  show ¬(p.st.now.set n 1).getD m 0=0
  rw[Az (λe=>a (by rw[e];exact H))];exact a
 have g:Sub p.st S (S.filter (· ≠n)):=λm a C=>List.mem_filter.2 ⟨a,by simpa using λe=>C (by rw[e];exact c)⟩
 have b:∀m∈S.filter (· ≠n),m≠n/\m∈S:=λm a=>⟨by simpa using (List.mem_filter.1 a).2,(List.mem_filter.1 a).1⟩
 have l:En ⟨p.st.blocks,p.st.waits++[((n:Int),d)],p.st.now.set n 1,p.st.last⟩ (S.filter (· ≠n)) ((n:Int)::AX p):=by
  refine⟨Ut s N O L,f.nodup.filter _,λj R u=>?_,λm a y o x B z D=>?_,λm a lv y o E x B=>?_⟩
  ·have T:wS ⟨p.st.blocks,p.st.waits++[((n:Int),d)],p.st.now.set n 1,p.st.last⟩ (S.filter (· ≠n)) j=wS p.st S j:=by
    rw[<-Uk c j]
    exact QQ λm a=>by unfold Be;rw[Rb (b m a).1]
   have I:=f.enough j R u
   rw[T]
   show _=((p.st.now.set n 1).getD j.toNat 0).toNat
   by_cases e:j=(n:Int)
   ·subst e
    rw[Int.toNat_natCast,H]at I
    have Q:(0:By).toNat=0:=rfl
    have P:(1:By).toNat=1:=rfl
    rw[Int.toNat_natCast,AU (by omega),List.count_cons_self];omega
   rw[Az (by omega),List.count_cons_of_ne (Ne.symm e)];exact I
  ·obtain ⟨G,F⟩:=b m a
   rw[Rb G]at o
   exact f.disj m F y o x B z (b _ D).2
  obtain⟨G,F⟩:=b m a
  rw[Rb G]at o
  obtain⟨U,zs,J⟩:=f.closed m F lv y o E x B
  exact⟨g _ U (by rw[J];simp),zs,i.nd _ _ J⟩
 refine⟨S.filter (· ≠n),(h.move ((Kp.ext i g).oks l.ok) (hs':=[(n:Int)]) l).1,λa=>?_⟩
 rw[Int.toNat_natCast]at a
 exact(b n a).1 rfl
variable{lv:Int}
theorem Xi{d:List Int}:∀{xs:List It},xs.foldl (L6 lv false) (.ok (s,d))=.ok (s,d)
 |[]=>rfl
 |x::xs=>by rw[foldl_cons,show L6 lv false (.ok (s,d)) x=.ok (s,d)from rfl];exact Xi
theorem Xh(a:0<lv):∀{xs:List It}{s:Sto}{d:List Int},(∀x∈xs,x.ref≠0)->xs.foldl (L6 lv true) (.ok (s,d))=.ok (s,d++xs.map (·.ref))
 |[],s,d,_=>by simp
 |x::xs,s,d,h=>by
  have c:=h x (by simp)
  rw[foldl_cons,show L6 lv true (.ok (s,d)) x=.ok (s,d++[x.ref])from (if_neg λe=>e.elim (λe=>by cases e) c).trans (if_pos a),Xh a λy b=>h y (by simp[b])]
  simp
variable{R:List Int}
theorem Ll:∀{xs:List It}{s u:Sto}{d b:List Int},En s S (xs.map (·.ref)++R)->(∀x∈xs,x.ref=0\/(8<=x.ref/\x.ref<256)/\x.ref.toNat∉S)->xs.foldl (L6 0 true) (.ok (s,d))=.ok (u,b)->b=d/\En u S R/\Thin s u
 |[],s,u,d,b,a,_,h=>by cases h;exact⟨rfl,a,Thin.refl s⟩
 |x::xs,s,u,d,b,a,f,h=>by
  rw[foldl_cons]at h
  by_cases l:x.ref=0
  ·rw [show L6 0 true (.ok (s,d)) x=.ok (s,d)from if_pos (.inr l)]at h
   exact Ll (a.less λk E=>by rw[map_cons,cons_append,List.count_cons_of_ne (by omega)]) (λy c=>f y (by simp[c])) h
  obtain⟨z,C⟩:=(f x (by simp)).resolve_left l
  have D:L6 0 true (.ok (s,d)) x=match Fo s x.ref with|.error e=>.error e|.ok t=>.ok (t,d):=(if_neg λe=>e.elim (λe=>by cases e) l).trans (if_neg (by decide))
  rw[D]at h
  rw[map_cons,cons_append]at a
  have i:=a.ok
  obtain⟨_,m,j⟩:=a.loose z (.inr C)
  have g:=EG s (by have:=a.ok.2.1.1;omega) m
  have B:Fo s x.ref=.ok (AF s x.ref.toNat):=if_pos (by unfold askE;rw[if_pos i,if_neg (by omega),if_neg m])
  rw[B]at h
  obtain⟨r,o,n⟩:=Ll j (λy c=>f y (by simp[c])) h
  exact⟨r,o,g.trans n⟩
theorem Fine.reap{p r:Po}(h:Fine p S [])(f:ZU p=.ok r):∃S',Fine r S' []:=by
 unfold ZU at f
 split at f
 ·rename_i W
  split at f
  ·cases f
  rename_i Y
  obtain⟨Q,N,b,X,_,lv,xs,V,i⟩:=WA W Y
  have aa:ER p∈AX p:=by rw[BF,Q];simp
  obtain⟨_,E,ab⟩:=h.ins _ aa
  obtain⟨L,_,_,l,T,y,ht,_⟩:=FV ab
  rw[i]at y
  have h5:lv=(l:Int)/\xs=T:=by simpa using y
  obtain⟨rfl,rfl⟩:=h5
  have C:=Ar i
  rw[V]at f
  have G:En p.st S (ER p::((p.root::p.dead.dropLast)++JX (allT p.st p.root))):=h.en.less λk hk=>by
   rw[BF]
   have e:p.dead.count k=(p.dead.dropLast++[ER p]).count k:=by rw[<-Q]
   simp only[List.count_cons,List.count_append,cons_append,List.nil_append,List.count_nil]at e⊢
   omega
  have H:∀r∈p.dead.dropLast,(8<=r/\r<256)/\r.toNat∈S/\(fchk p.st r).2=0:=λr z=>h.ins r (by rw[BF];exact List.mem_append_left _ (List.mem_cons_of_mem _ (List.dropLast_subset _ z)))
  have o:p.dead.dropLast.length<=40:=by have:=h.dead;rw[List.length_dropLast];omega
  have j:∀{s:Sto}{d:List Int},Zh p (.ok (s,d))=.ok r->d.length<=40/\r=⟨s,p.gen,p.root,p.next,d⟩:=λ{s d} O=>by
   unfold Zh at O
   dsimp only at O
   split at O
   ·cases O
   cases O;exact⟨by omega,rfl⟩
  have P:=G.enough (ER p) (by omega) b
  rw[List.count_cons_self]at P
  have Z:=L.2.1.1
  cases R:wMk p with
  |false=>
   rw[R,Xi]at f
   obtain⟨_,rfl⟩:=j f
   have D:(p.st.now.getD (ER p).toNat 0).toNat≠1:=λe=>by have:=of_decide_eq_false (show decide _=false from R);omega
   have ae:(p.st.now.getD (ER p).toNat 0).toNat≠0:=λe=>X (UInt8.toNat.inj e)
   obtain⟨_,_,m⟩:=G.loose ⟨N,b⟩ (.inl (by omega))
   obtain⟨g,_⟩:=FK (s:=p.st) (k:=(ER p).toNat) (by omega) (by omega)
   exact⟨S,h.moved ((Kp.ext g λn hn _=>hn).oks m.ok) H m o⟩
  |true=>
   rw[R]at f
   have D:p.st.now.getD (ER p).toNat 0=1:=UInt8.toNat.inj (by have:=of_decide_eq_true (show decide _=true from R);have af:(1:By).toNat=1:=rfl;omega)
   have ac:AF p.st (ER p).toNat=AN p.st (ER p).toNat:=by unfold AF AN;rw[D];rfl
   rw[ac]at f
   obtain⟨m,_,_⟩:=G.clear ⟨N,b⟩ D E i
   have K:=DM p.st (ER p).toNat
   cases l with
   |zero=>
    cases F:xs.foldl (L6 ((0:Nat):Int) true) (.ok (AN p.st (ER p).toNat,p.dead.dropLast))with
    |error e=>
     have a:Zh p (xs.foldl (L6 ((0:Nat):Int) true) (.ok (AN p.st (ER p).toNat,p.dead.dropLast)))=.ok r:=f
     rw[F]at a;cases a
    |ok x=>
     obtain⟨u,d'⟩:=x
     have a:Zh p (xs.foldl (L6 ((0:Nat):Int) true) (.ok (AN p.st (ER p).toNat,p.dead.dropLast)))=.ok r:=f
     rw[F]at a
     obtain⟨rfl,c,J⟩:=Ll m (λx g=>by
      rcases C.ref x g with h0|h1
      ·exact .inl h0
      exact .inr ⟨h1,h.en.disj _ E xs i x g (by omega)⟩) F
     obtain⟨_,rfl⟩:=j a
     exact⟨S,h.moved ((Kp.thin (K.trans J) c).oks c.ok) H c o⟩
   |succ l=>
    have I:=λx g=>C.up (by omega) x g
    have a:Zh p (xs.foldl (L6 ((l+1:Nat):Int) true) (.ok (AN p.st (ER p).toNat,p.dead.dropLast)))=.ok r:=f
    rw[Xh (by omega) I]at a
    obtain⟨ad,rfl⟩:=j a
    have M:=Jn ht
    have t:=E6 ht
    have c:En (AN p.st (ER p).toNat) S ((p.root::(p.dead.dropLast++xs.map (·.ref)))++JX (allT p.st p.root)):=m.perm (by
     simp only[cons_append,append_assoc]
     refine(List.perm_middle).trans (List.Perm.cons _ ?_)
     rw[<-append_assoc,<-append_assoc]
     exact List.Perm.append_right _ List.perm_append_comm)
    refine⟨S,h.moved ((Kp.thin K c).oks c.ok) (λr z=>?_) c ad⟩
    rcases List.mem_append.1 z with z|z
    ·exact H r z
    obtain⟨x,g,rfl⟩:=List.mem_map.1 z
    obtain⟨c1,_⟩:=h.en.closed _ E _ _ i (by omega) x g
    obtain⟨ys,y1,_,_,y4⟩:=M x g
    have hb:8<=x.ref/\x.ref<256:=by have:=C.ref x g;have:=I x g;omega
    have U:Srt (Aw p.st l ys):=by
     have h6:allOne p.st (l+1) x=Aw p.st l ys:=A3 y1
     rw[<-h6]
     obtain⟨A,B,e⟩:=List.append_of_mem g
     rw[e,A1,Dh]at t
     exact(List.pairwise_append.1 (List.pairwise_append.1 t).2.1).1
    exact⟨hb,c1,by rw[(KB L hb y1 (J2 y4 U)).1]⟩
 cases f
set_option maxRecDepth 8000
structure Sim(b s t:Sto):Prop where
 now:s.now=t.now
 last:s.last=t.last
 wl:s.waits.length=t.waits.length
 dk:dkOk s.blocks s.waits↔dkOk t.blocks t.waits
 seen:∀k,¬s.now.getD k 0=0->seen s k=seen t k
 bl:s.blocks=b.blocks
 la:s.last=b.last
 ws:∀w∈s.waits,w∈b.waits\/(8<=w.1/\w.1<256/\b.last.getD w.1.toNat 0=0)
inductive ERel {α β:Type} (R:α->β->Prop):Except Int α->Except Int β->Prop
 |err (e:Int):ERel R (.error e) (.error e)
 |ok {a:α} {b:β} (h:R a b):ERel R (.ok a) (.ok b)
abbrev RY(b:Sto)(x y:Sto×Int):Prop:=Sim b x.1 y.1/\x.2=y.2
abbrev wKv(b:Sto)(x y:Sto×List It):Prop:=Sim b x.1 y.1/\x.2=y.2
variable{b s t:Sto}
theorem Sim.eqv(h:Sim b s t):Eqv s t:=⟨h.now,λk=>by
 unfold Ai
 rw[<-h.now]
 by_cases e:s.now.getD k 0=0
 ·rw [if_pos e,if_pos e]
 rw[if_neg e,if_neg e,h.seen k e]⟩
theorem Sim.st(h:Sim b s t):Aq s↔Aq t:=by unfold Aq;rw[h.dk,h.now,h.last]
theorem Sim.fchk(h:Sim b s t)(r:Int):fchk s r=Go.Proofs.YtdahhoicackcaaaGreat.fchk t r:=by
 unfold Go.Proofs.YtdahhoicackcaaaGreat.fchk AV
 by_cases hs:Aq s
 ·rw [if_pos hs,if_pos (h.st.1 hs),h.now]
  simp only[h.eqv.nd,h.eqv.one]
 rw[if_neg hs,if_neg (λk=>hs (h.st.2 k))]
theorem Sim.askE(h:Sim b s t)(k:Int):askE s k=Go.Proofs.YtdahhoicackcaaaGreat.askE t k:=by
 unfold Go.Proofs.YtdahhoicackcaaaGreat.askE
 by_cases hs:Aq s
 ·rw [if_pos hs,if_pos (h.st.1 hs),h.now]
 rw[if_neg hs,if_neg (λk=>hs (h.st.2 k))]
variable{j:Nat}{l:List By}
theorem wCw(h:l.length<=j):l.getD j 0=0:=by
 rw[List.getD_eq_getElem?_getD,List.getElem?_eq_none h];rfl
variable{k:Nat}
theorem Sim.set(h:Sim b s t){v:By}(c:¬s.now.getD k 0=0\/v=0):Sim b { s with now:=s.now.set k v } { t with now:=t.now.set k v }:=
 ⟨by show s.now.set k v=t.now.set k v;rw[h.now],h.last,h.wl,h.dk,λj d=>h.seen j (by
  intro e
  by_cases f:j=k
  ·subst f
   have a:¬(s.now.set j v).getD j 0=0:=d
   rcases c with c|c
   ·exact c e
   subst c
   by_cases g:j<s.now.length
   ·exact a (AU g)
   exact a (wCw (by rw[List.length_set];omega))
  have a:¬(s.now.set k v).getD j 0=0:=d
  rw[Az f]at a;exact a e),h.bl,h.la,h.ws⟩
theorem Sim.share(h:Sim b s t)(a:shareE s k=0):Sim b (AQ s k) (AQ t k):=by
 have c:¬s.now.getD k 0=0:=λe=>by unfold shareE at a;rw[if_pos e]at a;cases a
 unfold AQ;rw[<-h.now];exact(h.now▸h.set (.inl c))
theorem Sim.loose(h:Sim b s t)(a:¬s.now.getD k 0=0):Sim b (AF s k) (AF t k):=by
 unfold AF;rw[<-h.now];exact(h.now▸h.set (.inl a))
theorem Sim.clear(h:Sim b s t)(k:Nat):Sim b (AN s k) (AN t k):=h.set (.inr rfl)
theorem Sim.shareE(h:Sim b s t)(k:Nat):shareE s k=Go.Proofs.YtdahhoicackcaaaGreat.shareE t k:=by unfold Go.Proofs.YtdahhoicackcaaaGreat.shareE;rw[h.now]
theorem Sim.looseE(h:Sim b s t)(k:Nat):looseE s k=Go.Proofs.YtdahhoicackcaaaGreat.looseE t k:=by unfold Go.Proofs.YtdahhoicackcaaaGreat.looseE;rw[h.now]
theorem NT(h:Go.Proofs.YtdahhoicackcaaaGreat.looseE s k=0):¬s.now.getD k 0=0:=λe=>by unfold Go.Proofs.YtdahhoicackcaaaGreat.looseE at h;rw[if_pos e]at h;cases h
theorem QV:∀(xs:List It){s t:Sto},Sim b s t->Go.Proofs.YtdahhoicackcaaaGreat.shE s xs=Go.Proofs.YtdahhoicackcaaaGreat.shE t xs/\(Go.Proofs.YtdahhoicackcaaaGreat.shE s xs=0->Sim b (Ag s xs) (Ag t xs))
 |[],s,t,h=>⟨rfl,λ_=>h⟩
 |x::xs,s,t,h=>by
  have d:∀u:Sto,Ag u (x::xs)=Ag (if x.ref=0 then u else AQ u x.ref.toNat) xs:=λ_=>rfl
  rw[d,d,Go.Proofs.YtdahhoicackcaaaGreat.shE,Go.Proofs.YtdahhoicackcaaaGreat.shE]
  by_cases a:x.ref=0
  ·rw [if_pos a,if_pos a,if_pos a,if_pos a];exact QV xs h
  rw[if_neg a,if_neg a,if_neg a,if_neg a,<-h.shareE]
  by_cases c:Go.Proofs.YtdahhoicackcaaaGreat.shareE s x.ref.toNat=0
  ·rw [if_pos c,if_pos c];exact QV xs (h.share c)
  rw[if_neg c,if_neg c];exact⟨rfl,λe=>absurd e c⟩
theorem Sim.shE(h:Sim b s t)(xs:List It):Go.Proofs.YtdahhoicackcaaaGreat.shE s xs=Go.Proofs.YtdahhoicackcaaaGreat.shE t xs/\(Go.Proofs.YtdahhoicackcaaaGreat.shE s xs=0->Sim b (Ag s xs) (Ag t xs)):=QV xs h
theorem Sim.frAt(h:Sim b s t):∀f k,frAt s f k=Go.Proofs.YtdahhoicackcaaaGreat.frAt t f k
 |0,k=>rfl
 |f+1,k=>by
  have:Fm s k↔Fm t k:=by unfold Fm;rw[h.now,h.last]
  rw[Go.Proofs.YtdahhoicackcaaaGreat.frAt,Go.Proofs.YtdahhoicackcaaaGreat.frAt,h.frAt f]
  simp only[this]
theorem Sim.mkAt(h:Sim b s t):mkAt s=Go.Proofs.YtdahhoicackcaaaGreat.mkAt t:=h.frAt _ _
theorem Sim.mkE(h:Sim b s t)(lv:Int)(xs:List It):mkE s lv xs=Go.Proofs.YtdahhoicackcaaaGreat.mkE t lv xs:=by
 unfold Go.Proofs.YtdahhoicackcaaaGreat.mkE
 by_cases c:Cw lv xs=true
 ·rw [if_pos c,if_pos c,<-(h.shE xs).1]
  by_cases a:Go.Proofs.YtdahhoicackcaaaGreat.shE s xs=0
  ·rw [if_pos a,if_pos a,((h.shE xs).2 a).mkAt,h.wl]
  rw[if_neg a,if_neg a]
 rw[if_neg c,if_neg c]
variable{bs:List (List By)}{ws:List Wt}
theorem wDs{w:Wt}:dkOk bs (ws++[w])↔dkOk bs ws/\ws.length<4096/\(0<=w.1/\w.1<256/\w.2.length=128):=by
 unfold dkOk
 rw[length_append]
 constructor
 ·rintro ⟨d,f,c,b⟩
  exact⟨⟨d,by have:[w].length=1:=rfl;omega,c,λx a=>b x (by simp[a])⟩,by have:[w].length=1:=rfl;omega,b w (by simp)⟩
 rintro⟨⟨d,f,c,b⟩,g,e⟩
 exact⟨d,by have:[w].length=1:=rfl;omega,c,λx a=>(List.mem_append.1 a).elim (b x) λa=>by rw[List.mem_singleton.1 a];exact e⟩
theorem Sv(s:Sto)(k j:Nat)(d:List By)(n:List By):Go.Proofs.YtdahhoicackcaaaGreat.seen ⟨s.blocks,s.waits++[((k:Int),d)],n,s.last⟩ j=if j=k then d else Go.Proofs.YtdahhoicackcaaaGreat.seen s j:=by
 rw[ZO]
 by_cases e:j=k
 ·rw [if_pos e,if_pos (by show (k:Int)=(j:Int);omega)]
 rw[if_neg e,if_neg (by show ¬(k:Int)=(j:Int);omega)];rfl
theorem Sim.add(h:Sim b s t)(d:List By)(hk:8<=k/\k<256)(g:s.last.getD k 0=0):Sim b (Jc s k d) (Jc t k d):=by
 refine⟨by show s.now.set k 1=t.now.set k 1;rw[h.now],h.last,by show (s.waits++[_]).length=(t.waits++[_]).length;rw[length_append,length_append,h.wl],?_,λj f=>?_,h.bl,h.la,λw a=>?_⟩
 ·show dkOk s.blocks (s.waits++[_])↔dkOk t.blocks (t.waits++[_])
  rw[wDs,wDs,h.dk,h.wl]
 ·show Go.Proofs.YtdahhoicackcaaaGreat.seen ⟨s.blocks,s.waits++[((k:Int),d)],_,s.last⟩ j=Go.Proofs.YtdahhoicackcaaaGreat.seen ⟨t.blocks,t.waits++[((k:Int),d)],_,t.last⟩ j
  rw[Sv,Sv]
  by_cases e:j=k
  ·rw [if_pos e,if_pos e]
  rw[if_neg e,if_neg e]
  have c:¬(s.now.set k 1).getD j 0=0:=f
  rw[Az e]at c
  exact h.seen j c
 rcases List.mem_append.1 a with a|a
 ·exact h.ws w a
 rw[List.mem_singleton.1 a]
 exact .inr ⟨by show (8:Int)<=k;omega,by show (k:Int)<256;omega,by show b.last.getD ((k:Int)).toNat 0=0;rw[Int.toNat_natCast,<-h.la];exact g⟩
theorem Qr:∀(f k:Nat),Go.Proofs.YtdahhoicackcaaaGreat.frAt s f k<k+f->Fm s (Go.Proofs.YtdahhoicackcaaaGreat.frAt s f k)
 |0,k,h=>by rw[Go.Proofs.YtdahhoicackcaaaGreat.frAt]at h;omega
 |f+1,k,h=>by
  rw[Go.Proofs.YtdahhoicackcaaaGreat.frAt]at h⊢
  split
  ·assumption
  rename_i a;rw[if_neg a]at h;exact Qr f (k+1) (by omega)
variable{lv:Int}{xs:List It}
theorem Ve(h:Go.Proofs.YtdahhoicackcaaaGreat.mkE s lv xs=0):Go.Proofs.YtdahhoicackcaaaGreat.shE s xs=0/\(8<=Go.Proofs.YtdahhoicackcaaaGreat.mkAt (Ag s xs)/\Go.Proofs.YtdahhoicackcaaaGreat.mkAt (Ag s xs)<256)/\(Ag s xs).last.getD (Go.Proofs.YtdahhoicackcaaaGreat.mkAt (Ag s xs)) 0=0:=by
 unfold Go.Proofs.YtdahhoicackcaaaGreat.mkE at h
 split at h
 ·split at h
  ·rename_i a
   split at h
   ·cases h
   rename_i d
   have e:=Rx (Ag s xs) 248 8
   have c:=H5 (Ag s xs) 248 8
   have b:Go.Proofs.YtdahhoicackcaaaGreat.mkAt (Ag s xs)<256:=by unfold Go.Proofs.YtdahhoicackcaaaGreat.mkAt at d ⊢;omega
   exact⟨a,⟨c,b⟩,(Qr 248 8 (by show Go.Proofs.YtdahhoicackcaaaGreat.mkAt (Ag s xs)<_;omega)).2⟩
  rename_i a;exact absurd h a
 cases h
theorem Sim.mkS(h:Sim b s t)(c:Go.Proofs.YtdahhoicackcaaaGreat.mkE s lv xs=0):Sim b (mkS s lv xs) (mkS t lv xs):=by
 obtain⟨f,e,d⟩:=Ve c
 have a:=(h.shE xs).2 f
 unfold Go.Proofs.YtdahhoicackcaaaGreat.mkS
 rw[<-a.mkAt]
 exact a.add _ e d
theorem Jw:∀{xs:List It}{s t:Sto},Sim b s t->(BT xs s=none/\BT xs t=none)\/∃u v,BT xs s=some u/\BT xs t=some v/\Sim b u v
 |[],s,t,h=>.inr ⟨s,t,rfl,rfl,h⟩
 |x::xs,s,t,h=>by
  rw[BT,BT,<-h.looseE]
  by_cases c:x.ref=0
  ·rw [if_pos c,if_pos c];exact Jw h
  rw[if_neg c,if_neg c]
  by_cases a:Go.Proofs.YtdahhoicackcaaaGreat.looseE s x.ref.toNat=0
  ·rw [if_pos a,if_pos a];exact Jw (h.loose (NT a))
  rw[if_neg a,if_neg a];exact .inl ⟨rfl,rfl⟩
theorem MM{first:List By}:∀{f:Nat}{st:List (Int×Int)}{s t:Sto},Sim b s t->(HV first f s st=none/\HV first f t st=none)\/∃u v,HV first f s st=some u/\HV first f t st=some v/\Sim b u v
 |f,[],s,t,h=>.inr ⟨s,t,by cases f<;>rfl,by cases f<;>rfl,h⟩
 |0,_::_,s,t,h=>.inl ⟨rfl,rfl⟩
 |f+1,(k,l)::st,s,t,h=>by
  rw[HV,HV,<-h.now,<-h.eqv.nd]
  by_cases a:s.now.getD k.toNat 0=0
  ·rw [if_pos a,if_pos a];exact .inl ⟨rfl,rfl⟩
  rw[if_neg a,if_neg a]
  by_cases e:s.now.getD k.toNat 0≠1
  ·rw [if_pos e,if_pos e];exact MM (h.loose a)
  rw[if_neg e,if_neg e]
  cases m:Ai s k.toNat with
  |none=>exact .inl ⟨rfl,rfl⟩
  |some q=>
   obtain⟨lv,xs⟩:=q
   dsimp only
   by_cases d:first.getD k.toNat 0=0\/(0<=l/\lv≠l)
   ·rw [if_pos d,if_pos d];exact .inl ⟨rfl,rfl⟩
   rw[if_neg d,if_neg d]
   by_cases c:0<lv
   ·rw [if_pos c,if_pos c];exact MM (h.clear _)
   rw[if_neg c,if_neg c]
   rcases Jw (xs:=xs) (h.clear k.toNat)with⟨i,g⟩|⟨u,v,i,g,j⟩
   ·rw [i,g];exact .inl ⟨rfl,rfl⟩
   rw[i,g];exact MM j
theorem HW(h:Sim b s t)(r:Int):(leave s r=none/\leave t r=none)\/∃u v,leave s r=some u/\leave t r=some v/\Sim b u v:=by
 unfold leave;rw[<-h.now];exact MM h
theorem WN:∀{ps:List (List It)}{s t:Sto}{up:List It},Sim b s t->ERel (wKv b) (Mx lv ps s up) (Mx lv ps t up)
 |[],s,t,up,h=>.ok ⟨h,rfl⟩
 |p::ps,s,t,up,h=>by
  rw[Mx,Mx,<-h.mkE]
  by_cases a:Go.Proofs.YtdahhoicackcaaaGreat.mkE s lv p=0
  ·rw [if_pos a,if_pos a]
   have e:PJ s p=PJ t p:=by unfold PJ;rw[((h.shE p).2 (Ve a).1).mkAt]
   rw[e];exact WN (h.mkS a)
  rw[if_neg a,if_neg a];exact .err _
theorem NV:∀{xs:List It}{s t:Sto},Sim b s t->ERel (Sim b) (Fx xs s) (Fx xs t)
 |[],s,t,h=>.ok h
 |x::xs,s,t,h=>by
  rw[Fx,Fx,<-h.looseE]
  by_cases c:x.ref=0
  ·rw [if_pos c,if_pos c];exact NV h
  rw[if_neg c,if_neg c]
  by_cases a:Go.Proofs.YtdahhoicackcaaaGreat.looseE s x.ref.toNat=0
  ·rw [if_pos a,if_pos a];exact NV (h.loose (NT a))
  rw[if_neg a,if_neg a];exact .err _
theorem QH(h:Sim b s t)(lv:Int)(l held:List It):ERel (wKv b) (build s lv l held) (build t lv l held):=by
 unfold build
 have c:=WN (lv:=lv) (ps:=A5 l) (up:=[]) h
 cases g:Mx lv (A5 l) s []<;>cases f:Mx lv (A5 l) t []<;>rw[g,f]at c<;>cases c
 ·exact .err _
 rename_i x y n
 obtain⟨u,up⟩:=x
 obtain⟨v,d⟩:=y
 obtain⟨m,e⟩:=n
 cases e
 dsimp only
 have a:=NV (xs:=held) m
 cases k:Fx held u<;>cases j:Fx held v<;>rw[k,j]at a<;>cases a
 ·exact .err _
 rename_i i;exact .ok ⟨i,rfl⟩
theorem W5(h:Sim b s t)(x:It):∀ws:List Stp,ERel (wKv b) (H2 s x ws) (H2 t x ws)
 |[]=>.ok ⟨h,rfl⟩
 |w::ws=>by
  rw[H2,H2]
  have d:=W5 h x ws
  cases k:H2 s x ws<;>cases j:H2 t x ws<;>rw[k,j]at d<;>cases d
  ·exact .err _
  rename_i a c i
  obtain⟨u,l⟩:=a
  obtain⟨v,f⟩:=c
  obtain⟨g,e⟩:=i
  cases e
  exact QH g _ _ _
theorem Sim.way(h:Sim b s t)(q:Ky):∀(l:Nat)(xs:List It),Av s q l xs=Av t q l xs
 |0,_=>rfl
 |l+1,xs=>by rw[Av,Av,h.way q l];congr 2;cases xs[Bz xs q]? <;>simp[h.eqv.kid]
theorem Sim.find(h:Sim b s t)(q:Ky):∀(l:Nat)(xs:List It),Bg s q l xs=Bg t q l xs
 |0,_=>rfl
 |l+1,xs=>by rw[Bg,Bg];cases Hh xs q<;>simp[h.eqv.kid,h.find q l]
theorem WF(h:Sim b s t)(r:Int)(x:It):ERel (RY b) (Fw s r x) (Fw t r x):=by
 have C:CL s r x=CL t r x:=by unfold CL;rw[h.fchk,h.now]
 unfold Fw
 rw[<-C,<-h.eqv.nd]
 by_cases i:CL s r x≠0
 ·rw [if_pos i,if_pos i];exact .err _
 rw[if_neg i,if_neg i]
 cases F:Ai s r.toNat with
 |none=>exact .err _
 |some q=>
  obtain⟨lv,xs⟩:=q
  dsimp only
  rw[<-h.way]
  unfold F6
  by_cases g:DT (Av s x.key lv.toNat xs) x.key=true
  ·rw [if_pos g,if_pos g];exact .err _
  rw[if_neg g,if_neg g]
  have B:ERel (wKv b) (EL x ((Av s x.key lv.toNat xs).length:Int) (H2 s x (Av s x.key lv.toNat xs))) (EL x ((Av s x.key lv.toNat xs).length:Int) (H2 t x (Av s x.key lv.toNat xs))):=by
   have z:=W5 h x (Av s x.key lv.toNat xs)
   cases m:H2 s x (Av s x.key lv.toNat xs)<;>cases l:H2 t x (Av s x.key lv.toNat xs)<;>rw[m,l]at z<;>cases z
   ·exact .err _
   rename_i a c k
   obtain⟨u,y⟩:=a
   obtain⟨v,j⟩:=c
   obtain⟨f,e⟩:=k
   cases e
   unfold EL
   dsimp only
   by_cases d:1<y.length
   ·rw [if_pos d,if_pos d];exact QH f _ _ _
   rw[if_neg d,if_neg d];exact .ok ⟨f,rfl⟩
  cases m:EL x ((Av s x.key lv.toNat xs).length:Int) (H2 s x (Av s x.key lv.toNat xs))<;>cases l:EL x ((Av s x.key lv.toNat xs).length:Int) (H2 t x (Av s x.key lv.toNat xs))<;>rw[m,l]at B<;>cases B
  ·exact .err _
  rename_i a c k
  obtain⟨u,y⟩:=a
  obtain⟨v,j⟩:=c
  obtain⟨f,e⟩:=k
  cases e
  dsimp only
  rcases HW f r with⟨o,n⟩|⟨E,D,o,n,d⟩
  ·rw [o,n];exact .err _
  rw[o,n];exact .ok ⟨d,rfl⟩
theorem Nt(h:Sim b s t)(lv:Int)(l:List It)(held:Int):ERel (RY b) (Cb s lv l held) (Cb t lv l held):=by
 unfold Cb
 rw[<-h.mkE]
 by_cases a:Go.Proofs.YtdahhoicackcaaaGreat.mkE s lv l=0
 ·have f:=h.mkS a
  have e:Go.Proofs.YtdahhoicackcaaaGreat.mkAt (Ag s l)=Go.Proofs.YtdahhoicackcaaaGreat.mkAt (Ag t l):=((h.shE l).2 (Ve a).1).mkAt
  rw[if_pos a,if_pos a,<-f.looseE,<-e]
  by_cases d:0<held
  ·rw [if_pos d,if_pos d]
   by_cases c:Go.Proofs.YtdahhoicackcaaaGreat.looseE (Go.Proofs.YtdahhoicackcaaaGreat.mkS s lv l) held.toNat=0
   ·rw [if_pos c,if_pos c];exact .ok ⟨f.loose (NT c),rfl⟩
   rw[if_neg c,if_neg c];exact .err _
  rw[if_neg d,if_neg d];exact .ok ⟨f,rfl⟩
 rw[if_neg a,if_neg a];exact .err _
theorem Sim.join(h:Sim b s t)(w:Stp)(l:List It):AA s w l=AA t w l:=by unfold AA;rw[h.eqv.kid]
abbrev SimD(b:Sto)(x y:Sto×List It×Int):Prop:=Sim b x.1 y.1/\x.2=y.2
theorem wDp(h:Sim b s t)(d:List It):∀ws:List Stp,ERel (SimD b) (dn s d ws) (dn t d ws)
 |[]=>.ok ⟨h,rfl⟩
 |w::ws=>by
  rw[dn,dn]
  have r:=wDp h d ws
  cases E:dn s d ws<;>cases D:dn t d ws<;>rw[E,D]at r<;>cases r
  ·exact .err _
  rename_i a c C
  obtain⟨u,l,i⟩:=a
  obtain⟨v,H,y⟩:=c
  obtain⟨o,e⟩:=C
  cases e
  dsimp only
  unfold wFm
  by_cases g:l=[]
  ·rw [if_pos g,if_pos g];exact .ok ⟨o,rfl⟩
  rw[if_neg g,if_neg g]
  have f:Sim b u v:=o
  rw[<-f.join]
  have n:=Nt f (w.lv-1) (AA u w l).1 i
  cases B:Cb u (w.lv-1) (AA u w l).1 i<;>cases z:Cb v (w.lv-1) (AA u w l).1 i<;>rw[B,z]at n<;>cases n
  ·exact .err _
  rename_i a c m
  obtain⟨G,k⟩:=a
  obtain⟨F,I⟩:=c
  obtain⟨j,e⟩:=m
  cases e
  exact .ok ⟨j,rfl⟩
theorem WR:∀(n:Nat){s t:Sto}(r:Int),Sim b s t->ERel (RY b) (Ds n s r) (Ds n t r)
 |0,s,t,r,h=>.ok ⟨h,rfl⟩
 |n+1,s,t,r,h=>by
  rw[Ds,Ds,<-h.eqv.nd]
  cases j:Ai s r.toNat with
  |none=>exact .err _
  |some q=>
   obtain⟨lv,xs⟩:=q
   dsimp only
   by_cases c:lv=0
   ·rw [if_pos c,if_pos c];exact .ok ⟨h,rfl⟩
   rw[if_neg c,if_neg c]
   match xs with
   |[]=>exact .ok ⟨h,rfl⟩
   |[x]=>
    dsimp only
    rw[<-h.shareE]
    by_cases a:Go.Proofs.YtdahhoicackcaaaGreat.shareE s x.ref.toNat=0
    ·rw [if_pos a,if_pos a]
     rcases HW (h.share a) r with⟨e,d⟩|⟨i,g,e,d,f⟩
     ·rw [e,d];exact .err _
     rw[e,d];exact WR n x.ref f
    rw[if_neg a,if_neg a];exact .err _
   |_::_::_=>exact .ok ⟨h,rfl⟩
theorem Xm(h:Sim b s t)(r:Int)(q:Ky):ERel (RY b) (GO s r q) (GO t r q):=by
 unfold GO
 rw[<-h.fchk,<-h.eqv.nd]
 by_cases f:(Go.Proofs.YtdahhoicackcaaaGreat.fchk s r).2=0
 ·rw [if_pos f,if_pos f]
  cases Q:Ai s r.toNat with
  |none=>exact .err _
  |some p=>
   obtain⟨lv,xs⟩:=p
   dsimp only
   rw[<-h.find,<-h.way]
   cases Bg s q lv.toNat xs with
   |none=>exact .err _
   |some y=>
    dsimp only
    unfold Jh
    generalize Av s q lv.toNat xs=ws
    have D:ERel (RY b) (HC ((ws.length:Int)-1) (dn s (Dt ws) ws.dropLast)) (HC ((ws.length:Int)-1) (dn t (Dt ws) ws.dropLast)):=by
     have C:=wDp h (Dt ws) ws.dropLast
     cases i:dn s (Dt ws) ws.dropLast<;>cases d:dn t (Dt ws) ws.dropLast<;>rw[i,d]at C<;>cases C
     ·exact .err _
     rename_i a c d
     obtain⟨u,l,R⟩:=a
     obtain⟨v,M,E⟩:=c
     obtain⟨g,e⟩:=d
     cases e
     exact Nt g _ _ _
    cases i:HC ((ws.length:Int)-1) (dn s (Dt ws) ws.dropLast)<;>cases d:HC ((ws.length:Int)-1) (dn t (Dt ws) ws.dropLast)<;>rw[i,d]at D<;>cases D
    ·exact .err _
    rename_i a c g
    obtain⟨u,k⟩:=a
    obtain⟨v,P⟩:=c
    obtain⟨H,e⟩:=g
    cases e
    have B:ERel (RY b) (Lq (.ok (u,k))) (Lq (.ok (v,k))):=WR 7 k H
    cases G:Lq (.ok (u,k))<;>cases F:Lq (.ok (v,k))<;>rw[G,F]at B<;>cases B
    ·exact .err _
    rename_i a c n
    obtain⟨L,O⟩:=a
    obtain⟨J,N⟩:=c
    obtain⟨m,e⟩:=n
    cases e
    unfold HD
    dsimp only
    rcases HW m r with⟨z,o⟩|⟨K,I,z,o,j⟩
    ·rw [z,o];exact .err _
    rw[z,o];exact .ok ⟨j,rfl⟩
 rw[if_neg f,if_neg f];exact .err _
set_option maxRecDepth 8000
structure PSim(b p q:Po):Prop where
 st:Sim b.st p.st q.st
 gen:p.gen=q.gen
 root:p.root=q.root
 next:p.next=q.next
 dead:p.dead=q.dead
 bg:p.gen=b.gen
variable{α:Type}
theorem ERel.bind{c i d:Type}{R:α->c->Prop}{Q:i->d->Prop}{x:Except Int α}{y:Except Int c}(h:ERel R x y)(f:Except Int α->Except Int i)(g:Except Int c->Except Int d)(k:∀e,ERel Q (f (.error e)) (g (.error e)))(j:∀a b,R a b->ERel Q (f (.ok a)) (g (.ok b))):ERel Q (f x) (g y):=by
 cases h with
 |err e=>exact k e
 |ok h=>exact j _ _ h
variable{c s t:Sto}{b p q:Po}
abbrev Es(b:Po):=ERel (PSim b)
abbrev wPe(b:Po)(x y:Po×Int):Prop:=PSim b x.1 y.1/\x.2=y.2
variable{s:Sto}
theorem PSim.mk'(h:PSim b p q){t:Sto}(hs:Sim b.st s t):PSim b ⟨s,p.gen,p.root,p.next,p.dead⟩ ⟨t,q.gen,q.root,q.next,q.dead⟩:=⟨hs,h.gen,h.root,h.next,h.dead,h.bg⟩
theorem PSim.cens(h:PSim b p q):cens p.st p.root p.next p.dead=Go.Proofs.YtdahhoicackcaaaGreat.cens q.st q.root q.next q.dead:=by
 rw[<-h.root,<-h.next,<-h.dead]
 by_cases hs:Aq p.st
 ·exact h.st.eqv.cens hs (h.st.st.1 hs) _ _ _
 unfold Go.Proofs.YtdahhoicackcaaaGreat.cens;rw[if_neg (λk=>hs k.1),if_neg (λk=>hs (h.st.st.2 k.1))]
theorem PSim.chk(h:PSim b p q):Ax p=Ax q:=by unfold Ax;rw[h.cens]
theorem PSim.volE(h:PSim b p q)(i:Int):volE p i=Go.Proofs.YtdahhoicackcaaaGreat.volE q i:=by unfold Go.Proofs.YtdahhoicackcaaaGreat.volE;rw[h.cens]
theorem PSim.volV(h:PSim b p q)(i:Int):volV p i=Go.Proofs.YtdahhoicackcaaaGreat.volV q i:=by unfold Go.Proofs.YtdahhoicackcaaaGreat.volV;rw[h.cens]
theorem PSim.refs(h:PSim b p q):BK p=BK q:=by unfold BK;rw[h.cens]
theorem PSim.nodes(h:PSim b p q):BH p=BH q:=by unfold BH;rw[h.cens]
theorem PSim.nv(h:PSim b p q):wLg p=wLg q:=by unfold wLg;rw[h.cens]
theorem PSim.asE(h:PSim b p q)(v:Vo):asE p v=Go.Proofs.YtdahhoicackcaaaGreat.asE q v:=by unfold Go.Proofs.YtdahhoicackcaaaGreat.asE;rw[h.cens,h.next,h.st.now,h.st.fchk]
theorem PSim.daE(h:PSim b p q)(k:Int)(a:Bool):daE p k a=Go.Proofs.YtdahhoicackcaaaGreat.daE q k a:=by unfold Go.Proofs.YtdahhoicackcaaaGreat.daE;rw[h.chk,h.nodes,h.refs,h.st.now]
theorem PSim.opE(h:PSim b p q)(i:Int):opE p i=Go.Proofs.YtdahhoicackcaaaGreat.opE q i:=by unfold Go.Proofs.YtdahhoicackcaaaGreat.opE;rw[h.volE,h.volV]
theorem PSim.vrnE(h:PSim b p q)(i:Int):vrnE p i=Go.Proofs.YtdahhoicackcaaaGreat.vrnE q i:=by unfold Go.Proofs.YtdahhoicackcaaaGreat.vrnE;rw[h.volE,h.volV,h.st.fchk]
theorem PSim.fnd(h:PSim b p q)(i:Int)(k:Ky):H6 p i k=H6 q i k:=by
 unfold H6 Go.Proofs.YtdahhoicackcaaaGreat.fnd
 rw[h.vrnE,h.volV,h.st.eqv.nd]
 cases Ai q.st (Go.Proofs.YtdahhoicackcaaaGreat.volV q i).root.toNat with
 |none=>rfl
 |some x=>obtain⟨lv,xs⟩:=x;show (if _ then Bg p.st k lv.toNat xs else none)=_;rw[h.st.find]
theorem Sim.rsh(h:Sim c s t)(k:Int):ERel (Sim c) (E7 s k) (E7 t k):=by
 unfold E7
 rw[<-h.askE,<-h.now]
 by_cases b:Go.Proofs.YtdahhoicackcaaaGreat.askE s k=0
 ·rw [if_pos b,if_pos b]
  by_cases a:s.now.getD k.toNat 0=255
  ·rw [if_pos a,if_pos a];exact .err _
  rw[if_neg a,if_neg a]
  have d:E7 s k=.ok (AQ s k.toNat):=by unfold E7;rw[if_pos b,if_neg a]
  exact .ok (h.share (ZS d).2.1)
 rw[if_neg b,if_neg b];exact .err _
theorem Sim.dlea(h:Sim c s t)(k:Int):ERel (Sim c) (Gl s k) (Gl t k):=by
 unfold Gl
 rw[<-h.askE]
 by_cases a:Go.Proofs.YtdahhoicackcaaaGreat.askE s k=0
 ·rw [if_pos a,if_pos a]
  unfold lvS
  rcases HW h k with⟨d,b⟩|⟨u,v,d,b,e⟩
  ·rw [d,b];exact .err _
  rw[d,b];exact .ok e
 rw[if_neg a,if_neg a];exact .err _
variable{k:Int}
theorem wNy(h:Go.Proofs.YtdahhoicackcaaaGreat.askE s k=0):¬s.now.getD k.toNat 0=0:=λe=>by
 unfold Go.Proofs.YtdahhoicackcaaaGreat.askE at h
 split at h
 ·split at h
  ·cases h
  first|(rw[if_pos e]at h;cases h)|(simp[e]at h)
 cases h
theorem Sim.dloo(h:Sim c s t)(k:Int):ERel (Sim c) (Fo s k) (Fo t k):=by
 unfold Fo
 rw[<-h.askE]
 by_cases a:Go.Proofs.YtdahhoicackcaaaGreat.askE s k=0
 ·rw [if_pos a,if_pos a];exact .ok (h.loose (wNy a))
 rw[if_neg a,if_neg a];exact .err _
theorem Sim.frN(h:Sim c s t)(n:Nat):frN s n=Go.Proofs.YtdahhoicackcaaaGreat.frN t n:=by
 unfold Go.Proofs.YtdahhoicackcaaaGreat.frN
 have:JM s=JM t:=by funext i;unfold JM;rw[h.now,h.last]
 rw[this]
theorem Sim.pnw(h:Sim c s t):ERel (RY c) (SQ s) (SQ t):=by
 have e:Qz s 0 []=Qz t 0 []:=by
  unfold Qz
  by_cases hs:Aq s
  ·rw [if_pos hs,if_pos (h.st.1 hs),h.mkE]
  rw[if_neg hs,if_neg (λk=>hs (h.st.2 k))]
 unfold SQ
 rw[<-e]
 by_cases a:Qz s 0 []=0
 ·rw [if_pos a,if_pos a,h.mkAt]
  refine .ok ⟨h.mkS ?_,rfl⟩
  unfold Qz at a
  split at a
  ·exact a
  cases a
 rw[if_neg a,if_neg a];exact .err _
theorem Sim.tak(h:Sim c s t)(d:List By):ERel (RY c) (DU s d) (DU t d):=by
 by_cases hs:Aq s
 ·have b:DU s d=Nj s d (Go.Proofs.YtdahhoicackcaaaGreat.frN s 256):=by unfold DU;rw[if_pos hs]
  have a:DU t d=Nj t d (Go.Proofs.YtdahhoicackcaaaGreat.frN s 256):=by unfold DU;rw[if_pos (h.st.1 hs),h.frN]
  cases f:Go.Proofs.YtdahhoicackcaaaGreat.frN s 256 with
  |nil=>rw[b,a,f];exact .err _
  |cons k l=>
   by_cases e:s.waits.length=4096
   ·rw [b,a,f];unfold Nj;dsimp only;rw[<-h.wl,if_pos e,if_pos e];exact .err _
   have g:DU s d=.ok (⟨s.blocks,s.waits++[((k:Int),d)],s.now.set k 1,s.last⟩,(k:Int)):=by rw[b,f];unfold Nj;dsimp only;rw[if_neg e]
   have m:DU t d=.ok (⟨t.blocks,t.waits++[((k:Int),d)],t.now.set k 1,t.last⟩,(k:Int)):=by rw[a,f];unfold Nj;dsimp only;rw[<-h.wl,if_neg e]
   obtain⟨n,o,i,r,j,_⟩:=ZC g
   have:k=n:=by omega
   subst this
   rw[g,m];exact .ok ⟨h.add d i j,rfl⟩
 have b:DU s d=.error 8:=by unfold DU;rw[if_neg hs]
 have a:DU t d=.error 8:=by unfold DU;rw[if_neg (λk=>hs (h.st.2 k))]
 rw[b,a];exact .err _
theorem PSim.psetN(h:PSim b p q){u v:Sto}(hs:Sim b.st u v)(n:Int):Es b (if Ax ⟨u,p.gen,n,p.next,p.dead⟩=0 then .ok ⟨u,p.gen,n,p.next,p.dead⟩else .error 8) (if Ax ⟨v,q.gen,n,q.next,q.dead⟩=0 then .ok ⟨v,q.gen,n,q.next,q.dead⟩else .error 8):=by
 have a:PSim b ⟨u,p.gen,n,p.next,p.dead⟩ ⟨v,q.gen,n,q.next,q.dead⟩:=⟨hs,h.gen,rfl,h.next,h.dead,h.bg⟩
 rw[<-a.chk]
 split
 ·exact .ok a
 exact .err _
theorem PSim.pset(h:PSim b p q)(v:Vo):Es b (Dq p v) (Dq q v):=by
 unfold Dq
 rw[<-h.asE,<-h.root]
 by_cases d:Go.Proofs.YtdahhoicackcaaaGreat.asE p v=0
 ·rw [if_pos d,if_pos d]
  have f:=WF h.st p.root (BO v)
  cases k:Fw p.st p.root (BO v)<;>cases j:Fw q.st p.root (BO v)<;>rw[k,j]at f<;>cases f
  ·exact .err _
  rename_i a c i
  obtain⟨u,n⟩:=a
  obtain⟨v,l⟩:=c
  obtain⟨g,e⟩:=i
  cases e
  exact h.psetN g n
 rw[if_neg d,if_neg d];exact .err _
theorem PSim.uns(h:PSim b p q)(i:Int):Es b (Nf p i) (Nf q i):=by
 unfold Nf
 rw[<-h.volE,<-h.root]
 by_cases d:Go.Proofs.YtdahhoicackcaaaGreat.volE p i=0
 ·rw [if_pos d,if_pos d]
  have f:=Xm h.st p.root (Uf i)
  cases l:GO p.st p.root (Uf i)<;>cases k:GO q.st p.root (Uf i)<;>rw[l,k]at f<;>cases f
  ·exact .err _
  rename_i a c j
  obtain⟨u,n⟩:=a
  obtain⟨v,m⟩:=c
  obtain⟨g,e⟩:=j
  cases e
  exact .ok ⟨g,h.gen,rfl,h.next,h.dead,h.bg⟩
 rw[if_neg d,if_neg d];exact .err _
theorem PSim.onSt(h:PSim b p q){x y:Except Int Sto}(a:ERel (Sim b.st) x y):Es b (onSt p x) (onSt q y):=a.bind (Go.Proofs.YtdahhoicackcaaaGreat.onSt p) (Go.Proofs.YtdahhoicackcaaaGreat.onSt q) (λe=>.err e) λ_ _ hs=>.ok (h.mk' hs)
theorem PSim.psh(h:PSim b p q)(k:Int):Es b (GA p k) (GA q k):=by
 unfold GA
 rw[<-h.daE]
 by_cases a:Go.Proofs.YtdahhoicackcaaaGreat.daE p k false=0
 ·rw [if_pos a,if_pos a]
  exact h.onSt (h.st.rsh k)
 rw[if_neg a,if_neg a];exact .err _
variable{y:Except Int Po}
theorem KX{x:Except Int Po}(h:Es b x y):Es b (JU x) (JU y):=h.bind JU JU (λe=>.err e) λp q hs=>by
 show Es b (if DF p.st then .ok p else .error 9) (if DF q.st then .ok q else .error 9)
 have:DF p.st↔DF q.st:=by unfold DF;rw[hs.st.frN]
 by_cases a:DF p.st
 ·rw [if_pos a,if_pos (this.1 a)];exact .ok hs
 rw[if_neg a,if_neg (λk=>a (this.2 k))];exact .err _
theorem PSim.cre(h:PSim b p q):Es b (FB p) (FB q):=by
 unfold FB
 rw[<-h.cens]
 cases Go.Proofs.YtdahhoicackcaaaGreat.cens p.st p.root p.next p.dead with
 |none=>exact .err _
 |some x=>
  obtain⟨g,refs,nodes⟩:=x
  dsimp only
  rw[<-h.next]
  by_cases d:16<=g.length\/p.next=4294967295
  ·rw [if_pos d,if_pos d];exact .err _
  rw[if_neg d,if_neg d]
  refine h.st.pnw.bind (Y0 p) (Y0 q) (λe=>.err e) λa c j=>?_
  obtain⟨u,n⟩:=a
  obtain⟨v,k⟩:=c
  obtain⟨i,e⟩:=j
  cases e
  show Es b (Dq ⟨u,p.gen,p.root,p.next+1,p.dead⟩ ⟨p.next,n,false,0⟩) (Dq ⟨v,q.gen,q.root,q.next+1,q.dead⟩ ⟨q.next,n,false,0⟩)
  have f:PSim b ⟨u,p.gen,p.root,p.next+1,p.dead⟩ ⟨v,q.gen,q.root,q.next+1,q.dead⟩:=⟨i,h.gen,h.root,by show p.next+1=q.next+1;rw[h.next],h.dead,h.bg⟩
  rw[<-h.next]
  rw[<-h.next]at f
  exact f.pset _
variable{f:Sto->Except Int (Sto×Int)}
theorem PSim.chg(h:PSim b p q)(v:Vo)(g:∀{s t:Sto},Sim b.st s t->ERel (RY b.st) (f s) (f t)):Es b (Dn p v f) (Dn q v f):=by
 unfold Dn
 refine(h.st.rsh v.root).bind (PN p v f) (PN q v f) (λe=>.err e) λs t hs=>?_
 refine(g hs).bind (TW p v) (TW q v) (λe=>.err e) λa c j=>?_
 obtain⟨u,n⟩:=a
 obtain⟨w,l⟩:=c
 obtain⟨i,e⟩:=j
 cases e
 refine((h.mk' i).pset ⟨v.id,n,v.frz,v.frm⟩).bind (wKn v.root) (wKn v.root) (λe=>.err e) λp2 k d=>?_
 exact d.onSt (d.st.dlea _)
theorem PSim.put(h:PSim b p q)(i:Int)(x:It):Es b (E4 p i x) (E4 q i x):=by
 unfold E4
 rw[<-h.opE,<-h.daE,<-h.volV]
 by_cases d:Go.Proofs.YtdahhoicackcaaaGreat.opE p i=0
 ·rw [if_pos d,if_pos d]
  by_cases c:BY x=0
  ·rw [if_pos c,if_pos c]
   by_cases a:x.ref≠0/\Go.Proofs.YtdahhoicackcaaaGreat.daE p x.ref true≠0
   ·rw [if_pos a,if_pos a];exact .err _
   rw[if_neg a,if_neg a];exact KX (h.chg _ λhs=>WF hs _ _)
  rw[if_neg c,if_neg c];exact .err _
 rw[if_neg d,if_neg d];exact .err _
theorem PSim.del(h:PSim b p q)(i:Int)(k:Ky):Es b (JZ p i k) (JZ q i k):=by
 unfold JZ
 rw[<-h.opE,<-h.volV]
 by_cases a:Go.Proofs.YtdahhoicackcaaaGreat.opE p i=0
 ·rw [if_pos a,if_pos a];exact KX (h.chg _ λhs=>Xm hs _ _)
 rw[if_neg a,if_neg a];exact .err _
theorem PSim.gfi(h:PSim b p q)(i:Int):Es b (Fz p i) (Fz q i):=by
 unfold Fz
 rw[<-h.volE]
 split
 ·exact .ok h
 exact .err _
theorem Xb{x:Except Int Po}(h:Es b x y)(k:Int):Es b (EP x k) (EP y k):=h.bind (EP · k) (EP · k) (λe=>.err e) λp q hs=>by
 have a:=hs.onSt (hs.st.rsh k)
 have e:∀p:Po,Go.Proofs.YtdahhoicackcaaaGreat.onSt p (E7 p.st k)=EP (.ok p) k:=λp=>by unfold EP Go.Proofs.YtdahhoicackcaaaGreat.onSt;rfl
 rw[e,e]at a;exact a
theorem W4{x:Except Int Po}(h:Es b x y)(v:Vo):Es b (Jb x v) (Jb y v):=h.bind (Jb · v) (Jb · v) (λe=>.err e) λp q hs=>hs.pset v
theorem wJu{x:Except Int Po}(h:Es b x y)(k:Int):Es b (PM k x) (PM k y):=h.bind (PM k) (PM k) (λe=>.err e) λp q hs=>hs.onSt (hs.st.dlea k)
theorem wHr{x:Except Int Po}(h:Es b x y):Es b (Mu x) (Mu y):=h.bind Mu Mu (λe=>.err e) λp q hs=>.ok ⟨hs.st,hs.gen,hs.root,by show p.next+1=q.next+1;rw[hs.next],hs.dead,hs.bg⟩
theorem PSim.frz(h:PSim b p q)(i:Int)(f:Bool):Es b (VN p i f) (VN q i f):=by
 unfold VN
 rw[<-h.volV]
 exact KX (wJu (W4 (Xb (h.gfi i) _) _) _)
theorem PSim.sna(h:PSim b p q)(i:Int)(f:Bool):Es b (Nr p i f) (Nr q i f):=by
 unfold Nr
 rw[<-h.volE,<-h.nv,<-h.next,<-h.volV]
 split
 ·exact .err _
 exact KX (W4 (wHr (Xb (h.gfi i) _)) _)
theorem PSim.rde(h:PSim b p q)(i:Int):Es b (NB p i) (NB q i):=by
 unfold NB
 rw[<-h.volE,<-h.volV,<-h.dead]
 by_cases c:Go.Proofs.YtdahhoicackcaaaGreat.volE p i=0
 ·rw [if_pos c,if_pos c]
  split
  ·exact .err _
  have f:=(h.uns i).bind (Q:=PSim b) (wHa p (Go.Proofs.YtdahhoicackcaaaGreat.volV p i).root) (wHa q (Go.Proofs.YtdahhoicackcaaaGreat.volV p i).root) (λe=>.err e) λp2 d a=>.ok ⟨a.st,a.gen,a.root,a.next,by show p2.dead++_=d.dead++_;rw[a.dead],a.bg⟩
  exact f
 rw[if_neg c,if_neg c];exact .err _
abbrev SimS(c:Sto)(x y:Sto×List Int):Prop:=Sim c x.1 y.1/\x.2=y.2
variable{g:Bool}{lv:Int}
theorem WC:∀(xs:List It){x y:Except Int (Sto×List Int)},ERel (SimS c) x y->ERel (SimS c) (xs.foldl (L6 lv g) x) (xs.foldl (L6 lv g) y)
 |[],x,y,h=>h
 |i::xs,x,y,h=>WC xs (h.bind (L6 lv g · i) (L6 lv g · i) (λe=>.err e) λa c hs=>by
  obtain⟨s,d⟩:=a
  obtain⟨t,l⟩:=c
  obtain⟨hs,e⟩:=hs
  cases e
  dsimp only[L6]
  split
  ·exact .ok ⟨hs,rfl⟩
  split
  ·exact .ok ⟨hs,rfl⟩
  have b:=Sim.dloo hs i.ref
  cases k:Fo s i.ref<;>cases j:Fo t i.ref<;>rw[k,j]at b<;>cases b
  ·exact .err _
  rename_i f;exact .ok ⟨f,rfl⟩)
theorem PSim.rp(h:PSim b p q)(i:p.dead≠[]->¬p.st.now.getD (ER p).toNat 0=0):Es b (ZU p) (ZU q):=by
 have f:ER q=ER p:=by unfold ER;rw[h.dead]
 have eg:wMk q=wMk p:=by unfold wMk;rw[f,h.st.now]
 have en:wGt q=wGt p:=by unfold wGt;rw[f,h.st.eqv.nd]
 unfold ZU
 rw[<-h.chk,<-h.dead,eg,en,f]
 split
 ·split
  ·exact .err _
  rename_i k
  have j:=WC (lv:=(wGt p).1) (g:=wMk p) (wGt p).2 (x:=.ok (AF p.st (ER p).toNat,p.dead.dropLast)) (y:=.ok (AF q.st (ER p).toNat,p.dead.dropLast)) (.ok ⟨h.st.loose (i k),rfl⟩)
  refine j.bind (Zh p) (Zh q) (λe=>.err _) λa c hs=>?_
  obtain⟨s,d⟩:=a
  obtain⟨t,l⟩:=c
  obtain⟨hs,e⟩:=hs
  cases e
  dsimp only[Zh]
  split
  ·exact .err _
  exact .ok ⟨hs,h.gen,h.root,h.next,rfl,h.bg⟩
 exact .err _
theorem PSim.lay(h:PSim b p q)(d:List By):ERel (wPe b) (Ho p d) (Ho q d):=by
 have f:ERel (wPe b) (ET p d) (ET q d):=by
  unfold ET
  rw[<-h.chk]
  split
  ·split
   ·exact .err _
   refine(h.st.tak (L7 d)).bind (wMt p) (wMt q) (λe=>.err e) λa c f=>?_
   obtain⟨u,n⟩:=a
   obtain⟨v,i⟩:=c
   obtain⟨g,e⟩:=f
   cases e
   exact .ok ⟨h.mk' g,rfl⟩
  exact .err _
 unfold Ho
 cases m:ET p d<;>cases l:ET q d<;>rw[m,l]at f<;>cases f
 ·exact .err _
 rename_i a c k
 obtain⟨u,n⟩:=a
 obtain⟨v,i⟩:=c
 obtain⟨g,e⟩:=k
 cases e
 exact(KX (b:=b) (.ok g)).bind (Ex · n) (Ex · n) (λe=>.err e) λp2 o j=>.ok ⟨j,rfl⟩
set_option maxRecDepth 8000
structure Tp where
 kind:Int
 vol:Int
 frm:Int
 key:Ky
 val:List By
 on:Bool
structure TpOk(t:Tp):Prop where
 kind:0<=t.kind/\t.kind<256
 vol:0<=t.vol/\t.vol<4294967296
 frm:0<=t.frm/\t.frm<4294967296
 key:BP t.key
def Fj(p:Po):Except Int Po->Po
 |.error _=>p
 |.ok q=>q
def layS(p:Po)(t:Tp):Except Int (Po×Int)->Po
 |.error _=>p
 |.ok (q,k)=>Fj p (E4 q t.vol ⟨t.key,k,[]⟩)
def layA(p:Po)(t:Tp)(a:Int):Po:=layS p t (if 0<a then Ex (GA p a) a else Ho p t.val)
def wNu(p:Po)(t:Tp):Option It->Po
 |none=>p
 |some x=>if 0<x.ref then layA p t x.ref else p
def wEc(p:Po):Except Int Po:=if EX p=0 then .ok (Bn p)else .error (EX p)
def Eb(p:Po)(t:Tp):Po:=
 if t.kind=1 then Fj p (JU (FB p))else
 if t.kind=2 then Fj p (E4 p t.vol ⟨t.key,0,t.val⟩)else
 if t.kind=3 then layA p t 0 else
 if t.kind=4 then wNu p t (H6 p t.frm t.key)else
 if t.kind=5 then Fj p (JZ p t.vol t.key)else
 if t.kind=6 then Fj p (Nr p t.vol t.on)else
 if t.kind=7 then Fj p (VN p t.vol t.on)else
 if t.kind=8 then Fj p (NB p t.vol)else
 if t.kind=9 then Fj p (ZU p)else p
def HA(p:Po)(t:Tp):Po:=if t.kind=10 then Fj p (wEc p)else Eb p t
section
variable{s t:Sto}
theorem Eqv.fchk(h:Eqv s t)(hs:Aq s)(a:Aq t)(r:Int):fchk s r=Go.Proofs.YtdahhoicackcaaaGreat.fchk t r:=by
 unfold Go.Proofs.YtdahhoicackcaaaGreat.fchk AV
 rw[if_pos hs,if_pos a,h.now]
 simp only[h.nd,h.one]
theorem Eqv.rfs(h:Eqv s t)(n:Nat):Be s n=Be t n:=by unfold Be;rw[h.nd]
theorem Eqv.wS(h:Eqv s t)(S:List Nat)(k:Int):wS s S k=Go.Proofs.YtdahhoicackcaaaGreat.wS t S k:=by unfold Go.Proofs.YtdahhoicackcaaaGreat.wS;simp only[h.rfs]
theorem Eqv.allOne(h:Eqv s t):∀l,allOne s l=Go.Proofs.YtdahhoicackcaaaGreat.allOne t l
 |0=>rfl
 |l+1=>by funext x;rw[Go.Proofs.YtdahhoicackcaaaGreat.allOne,Go.Proofs.YtdahhoicackcaaaGreat.allOne,h.kid,h.allOne l]
theorem Eqv.allT(h:Eqv s t)(r:Int):allT s r=Go.Proofs.YtdahhoicackcaaaGreat.allT t r:=by unfold Go.Proofs.YtdahhoicackcaaaGreat.allT Aw;rw[h.nd];simp only[h.allOne]
theorem Eqv.en{S:List Nat}{R:List Int}(h:Eqv s t)(i:Aq t)(a:En s S R):En t S R:=
 ⟨i,a.nodup,λk f e=>by rw[<-h.wS,<-h.now];exact a.enough k f e,λn d b c=>a.disj n d b (by rw[h.nd];exact c),λn d lv b c f x g=>by
  obtain⟨e,zs,j⟩:=a.closed n d lv b (by rw[h.nd];exact c) f x g
  exact⟨e,zs,by rw[<-h.nd];exact j⟩⟩
end
structure PEq(p q:Po):Prop where
 st:Eqv p.st q.st
 ok:Aq q.st
 root:p.root=q.root
 next:p.next=q.next
 dead:p.dead=q.dead
 see:∀k,8<=k->k<256->¬p.st.now.getD k 0=0->seen p.st k=seen q.st k
variable{S:List Nat}{hs:List Int}
theorem Fine.eqv{p q:Po}(h:Fine p S hs)(a:PEq p q)(e:0<=q.gen):Fine q S hs:=by
 have b:allT p.st p.root=allT q.st q.root:=by rw[a.st.allT,a.root]
 have d:AX p=AX q:=by rw[BF,BF,b,a.root,a.dead]
 refine⟨by rw[<-d];exact a.st.en a.ok h.en,λr c=>?_,by rw[<-b,<-a.next];exact h.vol,by rw[<-b];exact h.few,by rw[<-a.dead];exact h.dead,by rw[<-a.next];exact h.next,e⟩
 rw[<-d]at c
 obtain⟨i,g,f⟩:=h.ins r c
 exact⟨i,g,by rw[<-a.st.fchk h.en.ok a.ok];exact f⟩
theorem Fine.pon{p:Po}(h:Fine p S hs)(a:p.gen<4294967296):PoN p:=⟨⟨h.gen,a⟩,h.next,by have:=h.dead;omega⟩
variable{r:Except Int Po}
theorem Fine.keep{p:Po}(h:Fine p S [])(b:∀q,r=.ok q->∃a,Fine q a []):∃a,Fine (Fj p r) a []:=by
 cases r with
 |error e=>exact⟨S,h⟩
 |ok q=>exact b q rfl
variable{d:List By}{k:Int}
theorem wBn{p q:Po}(h:Ho p d=.ok (q,k)):∃t,DU p.st (L7 d)=.ok (t,k)/\q=EE p t/\d.length<=128:=by
 unfold Ho at h
 cases a:ET p d with
 |error e=>rw[a]at h;cases h
 |ok x=>
  obtain⟨b,g⟩:=x
  rw[a]at h
  dsimp only at h
  have l:JU (.ok b)=.ok q/\g=k:=by
   cases f:JU (.ok b)with
   |error e=>rw[f]at h;cases h
   |ok m=>rw[f]at h;cases h;exact⟨rfl,rfl⟩
  obtain⟨j,rfl⟩:=l
  have i:=P3 j
  cases i
  unfold ET at a
  split at a
  ·split at a
   ·cases a
   rename_i o
   cases c:DU p.st (L7 d)with
   |error e=>rw[c]at a;cases a
   |ok y=>obtain⟨t,n⟩:=y;rw[c]at a;cases a;exact⟨t,rfl,rfl,by omega⟩
  cases a
theorem wAd{p q:Po}(h:GA p k=.ok q):daE p k false=0/\∃t,E7 p.st k=.ok t/\q=EE p t:=by
 unfold GA at h
 split at h
 ·rename_i b
  refine⟨b,?_⟩
  cases a:E7 p.st k with
  |error e=>rw[a]at h;cases h
  |ok t=>rw[a]at h;cases h;exact⟨t,rfl,rfl⟩
 cases h
variable{b:Bool}
theorem da_in{p:Po}(h:daE p k b=0):(8<=k/\k<256)/\¬p.st.now.getD k.toNat 0=0/\k∉BH p:=by
 unfold daE at h
 split at h
 ·split at h
  ·cases h
  split at h
  ·cases h
  rename_i c a
  exact⟨by omega,λe=>a (.inl e),λe=>a (.inr (.inl e))⟩
 contradiction
variable{t:Tp}
theorem Fine.layA{p:Po}(h:Fine p S [])(b:TpOk t)(a:Int):∃m,Fine (layA p t a) m []:=by
 unfold Go.Proofs.YtdahhoicackcaaaGreat.layA
 by_cases g:0<a
 ·rw [if_pos g]
  cases o:GA p a with
  |error e=>exact⟨S,h⟩
  |ok q=>
   obtain⟨f,u,l,rfl⟩:=wAd o
   obtain⟨j,d,z⟩:=da_in f
   refine h.keep λr c=>?_
   refine(h.share l).1.put (x:=⟨t.key,a,[]⟩) b.vol b.key (.inr ⟨rfl,λy=>?_⟩) c
   have i:=h.nodes (n:=a.toNat) y d
   rw[show ((a.toNat:Nat):Int)=a by omega]at i
   exact z i
 rw[if_neg g]
 cases s:Ho p t.val with
 |error e=>exact⟨S,h⟩
 |ok x=>
  obtain⟨q,k⟩:=x
  obtain⟨u,f,rfl,l⟩:=wBn s
  obtain⟨m,j,d⟩:=h.lay (by unfold L7;rw[length_append,List.length_replicate];omega) f
  exact h.keep λr c=>j.put (x:=⟨t.key,k,[]⟩) b.vol b.key (.inr ⟨rfl,d⟩) c
theorem Fine.stp{p:Po}(h:Fine p S [])(b:TpOk t):∃c,Fine (Eb p t) c []:=by
 unfold Eb
 split
 ·exact h.keep λq a=>h.create (P3 a)
 split
 ·exact h.keep λq a=>h.put (x:=⟨t.key,0,t.val⟩) b.vol b.key (.inl ⟨rfl,rfl⟩) a
 split
 ·exact h.layA b 0
 split
 ·cases H6 p t.frm t.key with
  |none=>exact⟨S,h⟩
  |some x=>
   show ∃c,Fine (if 0<x.ref then Go.Proofs.YtdahhoicackcaaaGreat.layA p t x.ref else p) c []
   split
   ·exact h.layA b _
   exact⟨S,h⟩
 split
 ·exact h.keep λq a=>h.del b.vol a
 split
 ·exact h.keep λq a=>h.snap b.vol a
 split
 ·exact h.keep λq a=>h.freeze b.vol a
 split
 ·exact h.keep λq a=>h.delete a
 split
 ·exact h.keep λq a=>h.reap a
 exact⟨S,h⟩
theorem Fine.ask{p:Po}(h:Fine p S [])(a:p.gen<4294967295):EX p=0:=by
 unfold EX;rw[h.chk,if_neg (by simp),if_neg (by omega)]
theorem wKh{p:Po}(h:PoOk p)(a:PoN p):PEq p (Bn p):=⟨⟨(RH h a).now.symm,λk=>((RH h a).nd k).symm⟩,Pu h a,rfl,rfl,rfl,λk c b _=>(Xp h a c b).symm⟩
theorem Fine.com{p:Po}(h:Fine p S [])(b:p.gen<4294967295):Fine (Bn p) S []:=by
 have a:=h.pon (by omega)
 exact h.eqv (wKh (PoOk.of h.chk) a) (by show 0<=p.gen+1;have:=h.gen;omega)
theorem Fine.com_is{p:Po}(h:Fine p S [])(a:p.gen<4294967295):wEc p=.ok (Bn p):=by unfold wEc;rw[if_pos (h.ask a)]
theorem wHi:∀k∈List.range 256,([8]:List Int).count (k:Int)=(po0.st.now.getD k 0).toNat:=by decide +kernel
theorem NG:Ai po0.st 8=some (0,[]):=by decide +kernel
theorem wAh:Fine po0 [8] []:=by
 have g:allT po0.st po0.root=[]:=by unfold allT;rw[show po0.root.toNat=8 from rfl,NG];rfl
 have i:AX po0=[8]:=by rw[BF,g];rfl
 have c:Aq po0.st:=(Ea Q0).1.st
 have j:∀x∈allT po0.st po0.root,Dj x/\x.key.id≠0/\x.key.id<po0.next:=λx a=>by rw[g]at a;cases a
 have m:(allT po0.st po0.root).length<=16:=by rw[g];exact Nat.zero_le _
 refine⟨?_,λr d=>?_,j,m,Nat.zero_le _,⟨by decide,by decide⟩,by decide⟩
 ·rw [i]
  refine⟨c,by decide,λk s j=>?_,λn f l b x a=>?_,λn f lv l b o x a=>?_⟩
  ·have e:wS po0.st [8] k=0:=by unfold wS;rw[map_cons,List.map_nil,CC NG];rfl
   have:=wHi k.toNat (List.mem_range.2 (by omega))
   rw[show ((k.toNat:Nat):Int)=k by omega]at this
   rw[e,<-this]
   exact Nat.zero_add _
  ·rw [List.mem_singleton.1 f,NG]at b;cases b;cases a
  rw[List.mem_singleton.1 f,NG]at b;cases b;cases a
 rw[i]at d
 rw[List.mem_singleton.1 d]
 refine⟨by omega,by decide,?_⟩
 unfold fchk
 rw[if_pos c,if_neg (by decide),if_neg (by decide +kernel),show (8:Int).toNat=8 from rfl,NG]
 dsimp only
 rw[if_pos (show AV po0.st (Int.toNat 0) []from λh=>absurd rfl h)]
end Go.Proofs.YtdahhoicackcaaaGreat
