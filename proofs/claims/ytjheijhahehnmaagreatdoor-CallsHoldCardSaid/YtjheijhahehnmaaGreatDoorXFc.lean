/- Lemmas. -/
import Derived.Test.YtjheijhahehnmaaGreatDoorXUp
import Derived.ScopeJumps
namespace Go.Proofs.YtjheijhahehnmaaGreatDoor
set_option linter.unusedSimpArgs false
set_option linter.unusedVariables false
set_option linter.unusedSectionVars false
set_option maxHeartbeats 40000000
set_option maxRecDepth 8000
open Go.RowKit
def wTs{α:Type}(N:Fs)(E:Ent)(Fi:α->Fr)(Mi:α->Mem)(Li:α->Lc)(φ:α->Prop)(μ:α->Nat)(b:Nat)(a:Act)(w:World):Prop:=∃y,φ y/\μ y<b/\Has N (Fi y) a/\St E (Mi y) (Li y) w
theorem Qe{p:Nat->Prop}(h:∃m,p m):∃m,p m/\∀k,p k->m<=k:=by
 obtain⟨m,c⟩:=h;induction m using Nat.strongRecOn with
 |_ m b=>
  by_cases a:∃k,k<m/\p k
  ·obtain ⟨k,g,f⟩:=a;exact b k g f
  exact⟨m,c,λk e=>Nat.le_of_not_lt λd=>a ⟨k,d,e⟩⟩
noncomputable def jmpM {α:Type} (N:Fs) (E:Ent) (Fi:α->Fr) (Mi:α->Mem) (Li:α->Lc) (φ:α->Prop) (μ:α->Nat) (a:Act) (w:World):Nat:=@dite _ (∃m,wTs N E Fi Mi Li φ μ m a w) (Classical.propDecidable _) (λh=>(Qe h).choose) λ_=>0
variable{D:List Deferred}{E:Ent}{F:Fr}{L:Lc}{M:Mem}{P:Program}{Q:Exit->Act->World->Prop}{c:Code}{n:Nat}{α:Type}
theorem wDs{i:Code}(l:Nat)(o:α->Fr)(j:α->Mem)(k:α->Lc)(g:α->Prop)(h:α->Nat)(b:Nat)(J:findLabel c l=some i)
  (first:JC P ⟨n,D,none⟩ c F E M L (Exit.jump l (wTs ⟨n,D,none⟩ E o j k g h b) Q))
  (s:∀x,g x->JC P ⟨n,D,none⟩ i (o x) E (j x) (k x) (Exit.jump l (wTs ⟨n,D,none⟩ E o j k g h (h x)) Q)):JC P ⟨n,D,none⟩ (.scope c) F E M L Q:=λa w K H=>by
 refine(wpIn_wide (n:=0)).2 (wp_scope_jumps l (λa w=>∃m,wTs ⟨n,D,none⟩ E o j k g h m a w) (jmpM ⟨n,D,none⟩ E o j k g h) J ?_ λa w B=>?_)
 ·refine (wpIn_wide (n:=0)).1 (wpIn_mono (first a w K H) λe C u d=>?_)
  cases e with
  |goto G=>exact⟨d.1,b,d.2⟩
  |_=>exact d
 classical
 have I:jmpM ⟨n,D,none⟩ E o j k g h a w=(Qe B).choose:=dif_pos B
 obtain⟨⟨y,S,R,O,N⟩,_⟩:=(Qe B).choose_spec
 refine(wpIn_wide (n:=0)).1 (wpIn_mono (s y S a w O N) λe C u d=>?_)
 cases e with
 |goto G=>
  obtain⟨T,d⟩:=d
  have f:∃m,wTs ⟨n,D,none⟩ E o j k g h m C u:=⟨_,d⟩
  have z:jmpM ⟨n,D,none⟩ E o j k g h C u=(Qe f).choose:=dif_pos f
  refine⟨T,f,?_⟩
  rw[I,z]
  exact Nat.lt_of_le_of_lt ((Qe f).choose_spec.2 _ d) R
 |_=>exact d
theorem XU{a:Code}(l:Nat)(i:α->Fr)(g:α->Mem)(h:α->Lc)(f:α->Prop)(e:α->Nat)(b:Nat)(m:findLabel c l=some (.seq .skip a))
  (d:∀x k,f x->e x<=k->JC P ⟨n,D,none⟩ a (i x) E (g x) (h x) (Exit.jump l (wTs ⟨n,D,none⟩ E i g h f e k) Q))
  (first:(∀x,f x->e x<=b->JC P ⟨n,D,none⟩ a (i x) E (g x) (h x) (Exit.jump l (wTs ⟨n,D,none⟩ E i g h f e b) Q))->JC P ⟨n,D,none⟩ c F E M L (Exit.jump l (wTs ⟨n,D,none⟩ E i g h f e b) Q)):JC P ⟨n,D,none⟩ (.scope c) F E M L Q:=
 wDs l i g h f e b m (first λx j o=>d x b j o) λx j=>Ao (E0 (jT (d x (e x) j (Nat.le_refl _))))
variable{N:Fs}{l:Nat}{Fi:α->Fr}{Li:α->Lc}{Mi:α->Mem}{μ:α->Nat}{φ:α->Prop}
theorem wKv{b:Nat}(y:α)(hk:Keep F (Fi y))(a:φ y)(d:μ y<b)(hs:∀w,St E M L w->St E (Mi y) (Li y) w):JQ N (.goto l) F E M L (Exit.jump l (wTs N E Fi Mi Li φ μ b) Q):=λ_ w e c=>⟨rfl,y,a,d,e.keep hk,hs w c⟩
variable{J:Act->World->Prop}{e:Exit}
theorem jJ(c:∀l,e≠.goto l)(h:JQ N e F E M L Q):JQ N e F E M L (Exit.jump l J Q):=λa w d b=>by
 cases e<;>first|exact absurd rfl (c _)|exact h a w d b
section
variable{P:Program}{N:Fs}{F:Fr}{E:Ent}{M:Mem}{L:Lc}{Q:Exit->Act->World->Prop}
theorem ZJ{l:Nat}(h:JQ N (.goto l) F E M L Q):JC P N (.goto l) F E M L Q:=λa w c b=>wpIn_goto (h a w c b)
end
def wUs(p:Po):Prop:=∀j,8<=j->j<256->(CS p).getD j 0=((p.st.now.getD j 0).toNat:Int)
def wXp(p:Po):Bool:=decide (AO p=0)&&(List.range 256).all λj=>decide (j<8)||decide ((CS p).getD j 0=((p.st.now.getD j 0).toNat:Int))
theorem cntB_iff{p:Po}:wXp p=true↔AO p=0/\wUs p:=by
 unfold wXp wUs;rw[Bool.and_eq_true,decide_eq_true_eq,List.all_eq_true];refine and_congr_right λ_=>⟨λh j d c=>?_,λh j b=>?_⟩
 ·have:=h j (List.mem_range.2 c);rw[Bool.or_eq_true,decide_eq_true_eq,decide_eq_true_eq]at this;rcases this with a|a
  ·omega
  exact a
 rw[Bool.or_eq_true,decide_eq_true_eq,decide_eq_true_eq];rcases Nat.lt_or_ge j 8 with a|a
 ·exact .inl a
 exact .inr (h j a (List.mem_range.1 b))
inductive Rcs (s:Sto) (rs:List Int):Nat->Prop
 |root {r:Int} (h:r∈rs):Rcs s rs r.toNat
 |kid {n:Nat} {lv:Int} {ys:List It} {x:It} (h:Rcs s rs n) (hnd:Ag s n=some (lv,ys)) (hl:0<lv) (hx:x∈ys):Rcs s rs x.ref.toNat
variable{n:Nat}{rs:List Int}{s:Sto}
theorem Rcs.mono{a:List Int}(h:∀r∈rs,r∈a)(f:Rcs s rs n):Rcs s a n:=by
 induction f with
 |root e=>exact .root (h _ e)
 |kid _ b g d c=>exact .kid c b g d
def GI(xs:List It)(k:Nat):Int:=((xs.filter λx=>decide (x.ref=(k:Int)/\x.ref≠0)).length:Int)
def cnt(s:Sto)(n k:Nat):Int:=match Ag s n with|some (_,xs)=>GI xs k|none=>0
def sg(s:Sto)(p:List Int)(k:Nat):Int:=((List.range 256).map λn=>if 0<p.getD n 0 then cnt s n k else 0).sum
theorem wTe(xs:List It)(k:Nat):0<=GI xs k/\GI xs k<=xs.length:=by
 unfold GI;have:=List.length_filter_le (λx:It=>decide (x.ref=(k:Int)/\x.ref≠0)) xs;omega
theorem wXn(s:Sto)(n k:Nat):0<=cnt s n k/\cnt s n k<=5:=by
 unfold cnt;split
 ·rename_i a xs h;have:=(Ar h).len;have:=wTe xs k;omega
 omega
variable{b:Int}{f:Nat->Int}
theorem Tg(h:∀n,0<=f n/\f n<=b):∀m:Nat,0<=((List.range m).map f).sum/\((List.range m).map f).sum<=m*b
 |0=>by simp
 |m+1=>by
  rw[List.range_succ,List.map_append,List.sum_append];have d:=Tg h m;have c:=h m;simp only[List.map_cons,List.map_nil,List.sum_cons,List.sum_nil];have a:((m+1:Nat):Int)*b=(m:Int)*b+b:=by push_cast;rw[Int.add_mul,Int.one_mul]
  omega
theorem Zc{g:Nat->Int}(h:∀j,j≠n->f j=g j):∀m:Nat,((List.range m).map f).sum=((List.range m).map g).sum+if n<m then f n-g n else 0
 |0=>by simp
 |m+1=>by
  rw[List.range_succ,List.map_append,List.sum_append,List.map_append,List.sum_append,Zc h m];simp only[List.map_cons,List.map_nil,List.sum_cons,List.sum_nil];by_cases e:m=n
  ·subst e;rw[iN (Nat.lt_irrefl _),iP (Nat.lt_succ_self _)];omega
  rw[h m e];by_cases a:n<m
  ·rw [iP a,iP (by omega)];omega
  rw[iN a,iN (by omega)];omega
theorem sg_le(s:Sto)(p:List Int)(k:Nat):0<=sg s p k/\sg s p k<=1280:=by
 have:=Tg (f:=λn=>if 0<p.getD n 0 then cnt s n k else 0) (b:=5) (λn=>by have:=wXn s n k;split<;>omega) 256;unfold sg;omega
theorem wVm{p q:List Int}(a:n<256)(d:¬0<p.getD n 0)(c:0<q.getD n 0)(h:∀j,j≠n->q.getD j 0=p.getD j 0)(k:Nat):sg s q k=sg s p k+cnt s n k:=by
 unfold sg;rw[Zc (f:=λn=>if 0<q.getD n 0 then cnt s n k else 0) (g:=λn=>if 0<p.getD n 0 then cnt s n k else 0) (n:=n) (λj b=>by rw[h j b]) 256,iP a,iP c,iN d];omega
theorem wQj{p q:List Int}(h:∀n,n<256->(0<q.getD n 0↔0<p.getD n 0))(k:Nat):sg s q k=sg s p k:=by
 unfold sg;congr 1;refine List.map_congr_left λn b=>?_;have:=h n (List.mem_range.1 b);by_cases a:0<p.getD n 0
 ·rw [iP a,iP (this.2 a)]
 rw[iN a,iN (λc=>a (this.1 c))]
structure Fin(s:Sto)(rs:List Int)(R N:List Int):Prop where
 eq:∀k,k<256->R.getD k 0=(rs.count (k:Int):Int)+sg s N k
 on:∀n,0<N.getD n 0↔Rcs s rs n
structure Frj(s:Sto)(rs st R N:List Int):Prop where
 len:R.length=256
 eq:∀k,k<256->R.getD k 0=(rs.count (k:Int):Int)+sg s N k
 pd:∀k∈st,(8<=k/\k<256)/\Rcs s rs k.toNat/\∃(l:Nat)(ys:List It),Ag s k.toNat=some ((l:Int),ys)/\A1 s l ys
 me:∀n,0<N.getD n 0->Rcs s rs n
 cl:∀n,0<N.getD n 0->∀lv ys,Ag s n=some (lv,ys)->0<lv->∀y∈ys,0<N.getD y.ref.toNat 0\/y.ref∈st
 rt:∀r∈rs,0<N.getD r.toNat 0\/r∈st
variable{N R:List Int}
theorem Frj.fin(h:Frj s rs [] R N):Fin s rs R N:=by
 refine⟨h.eq,λn=>⟨h.me n,λe=>?_⟩⟩;induction e with
 |root d=>exact(h.rt _ d).resolve_right (by simp)
 |kid _ a f c b=>exact(h.cl _ b _ _ a f _ c).resolve_right (by simp)
variable{k:Nat}
theorem wWq{r:List Int}(hk:k<r.length)(a:0<=r.getD k 0/\r.getD k 0<=4000000000000000000)(j:Nat):(inc r k).getD j 0=if j=k then r.getD k 0+1 else r.getD j 0:=by
 unfold inc;rw[show IntKind.i64.wrap (r.getD k 0+1)=r.getD k 0+1 from IntWalk.i64_in _ (by omega)];by_cases e:j=k
 ·subst e;rw[iP rfl];simp[List.getD,hk]
 rw[iN e];simp[List.getD,List.getElem?_set_ne (λh=>e h.symm)]
structure FoS(lv:Int)(xs:List It)(R st R' st':List Int):Prop where
 len:R'.length=R.length
 eq:∀k,k<256->R'.getD k 0=R.getD k 0+GI xs k
 sub:∀z∈st,z∈st'
 all:0<lv->∀y∈xs,y.ref≠0->y.ref∈st'
 back:∀z∈st',z∈st\/(0<lv/\∃y∈xs,z=y.ref)
 few:st'.length<=st.length+xs.length
theorem TJ{lv:Int}:∀{xs:List It}{R st:List Int},R.length=256->(∀y∈xs,y.ref=0\/8<=y.ref/\y.ref<256)->(∀k,0<=R.getD k 0/\R.getD k 0+xs.length<=4000000000000000000)->FoS lv xs R st (xs.foldl (Cj lv) (R,st)).1 (xs.foldl (Cj lv) (R,st)).2
 |[],R,st,_,_,_=>{ len:=rfl,eq:=λk _=>by show R.getD k 0=R.getD k 0+GI [] k;simp[GI],sub:=λ_ h=>h,all:=λ_ y h=>aD h (List.not_mem_nil),back:=λ_ h=>Or.inl h,few:=lR }
 |x::xs,R,st,hR,hx,hb=>by
  rw[List.foldl_cons];have hb':=λk=>hb k;simp only[List.length_cons]at hb';by_cases h0:x.ref=0
  ·have e:Cj lv (R,st) x=(R,st):=by unfold Cj;rw[iP h0]
   rw[e];have ih:=TJ (lv:=lv) (xs:=xs) (R:=R) (st:=st) hR (λy hy=>hx y (by simp[hy])) (λk=>by have:=hb' k;omega);refine⟨ih.len,λk hk=>?_,ih.sub,λhl y hy hn=>?_,λz hz=>?_,by have:=ih.few;simp only[List.length_cons];omega⟩
   ·rw [ih.eq k hk];have:GI (x::xs) k=GI xs k:=by unfold GI;rw[List.filter_cons_of_neg (by simp[h0])]
    rw[this]
   ·rcases List.mem_cons.1 hy with rfl|hy
    ·exact aD h0 hn
    exact ih.all hl y hy hn
   rcases ih.back z hz with h|⟨h1,y,h2,h3⟩
   ·exact .inl h
   exact .inr ⟨h1,y,by simp[h2],h3⟩
  have hr:=(hx x (by simp)).resolve_left h0;have hbr:=hb' x.ref.toNat;have hi:=λj=>wWq (r:=R) (k:=x.ref.toNat) (by omega) (by omega) j;obtain⟨st1,hst1⟩:∃st1,st1=(if 0<lv then st++[x.ref]else st):=⟨_,rfl⟩;have e:Cj lv (R,st) x=(inc R x.ref.toNat,st1):=by unfold Cj;rw[iN h0,hst1]
  rw[e];have ih:=TJ (lv:=lv) (xs:=xs) (R:=inc R x.ref.toNat) (st:=st1) (by rw[Dn];exact hR) (λy hy=>hx y (by simp[hy])) (λk=>by rw[hi k];have:=hb' k;split<;>rename_i e<;>(try subst e)<;>omega);have hs1:∀z∈st,z∈st1:=λz hz=>by rw[hst1];split<;>simp[hz]
  refine⟨by rw[ih.len,Dn],λk hk=>?_,λz hz=>ih.sub z (hs1 z hz),λhl y hy hn=>?_,λz hz=>?_,?_⟩
  ·rw [ih.eq k hk,hi k];by_cases e2:k=x.ref.toNat
   ·rw [iP e2];have:GI (x::xs) k=GI xs k+1:=by unfold GI;rw[List.filter_cons_of_pos (by simp[h0];omega),List.length_cons];omega
    rw[this,e2];omega
   rw[iN e2];have:GI (x::xs) k=GI xs k:=by unfold GI;rw[List.filter_cons_of_neg (by simp;omega)]
   rw[this]
  ·rcases List.mem_cons.1 hy with rfl|hy
   ·exact ih.sub _ (by rw[hst1,iP hl];simp)
   exact ih.all hl y hy hn
  ·rcases ih.back z hz with h|⟨h1,y,h2,h3⟩
   ·rw [hst1]at h;split at h
    ·rename_i hl;rcases mA h with h|h
     ·exact .inl h
     exact .inr ⟨hl,x,by simp,mS h⟩
    exact .inl h
   exact .inr ⟨h1,y,by simp[h2],h3⟩
  have:=ih.few;have h2:st1.length<=st.length+1:=by rw[hst1];split<;>simp
  simp only[List.length_cons];omega
theorem Frj.bd{st:List Int}(h:Frj s rs st R N)(c:rs.length<=100000)(k:Nat):0<=R.getD k 0/\R.getD k 0+5<=4000000000000000000:=by
 rcases Nat.lt_or_ge k 256 with b|b
 ·rw [h.eq k b];have f:=sg_le s N k;have d:=List.count_le_length (a:=(k:Int)) (l:=rs);omega
 have e:R.getD k 0=0:=by rw[List.getD,List.getElem?_eq_none (by have:=h.len;omega)];rfl
 rw[e];omega
theorem My(D:rs.length<=100000):∀(f:Nat){st R N:List Int}{g:Nat},Frj s rs st R N->Few (g+f) N->st.length+6*WL N<=f->Frj s rs [] (B6 s f st R N).1 (B6 s f st R N).2/\Few g (B6 s f st R N).2
 |0,st,R,N,g,h,C,W=>by
  have:st=[]:=List.eq_nil_of_length_eq_zero (by omega);subst this;exact⟨h,C⟩
 |f+1,st,R,N,g,h,C,W=>by
  rcases List.eq_nil_or_concat st with rfl|⟨st0,k,rfl⟩
  ·rw [RN];exact⟨h,C.less (by omega)⟩
  rw[List.concat_eq_append]at *;obtain⟨hk,Y,l,xs,o,O⟩:=h.pd k (by simp);have I:=Few.inc (f:=g+f) (nodes:=N) C (k:=k.toNat) (by omega);have ac:=C.2 k.toNat;have E:=λj=>wWq (r:=N) (k:=k.toNat) (by rw[C.1];omega) (by omega) j;rw[List.length_append,List.length_singleton]at W;by_cases U:1<(inc N k.toNat).getD k.toNat 0
  ·rw [Nn U];have a:∀j,0<(inc N k.toNat).getD j 0↔0<N.getD j 0:=λj=>by
    rw[E j];have b:=E k.toNat;rw[iP rfl]at b;rw[b]at U;split
    ·rename_i e;subst e;exact⟨λ_=>by omega,λ_=>by omega⟩
    exact Iff.rfl
   have B:0<N.getD k.toNat 0:=by
    have b:=E k.toNat;rw[iP rfl]at b;omega
   have G:WL (inc N k.toNat)=WL N:=by
    have b:=KN (nodes:=N) (k:=k.toNat) (v:=IntKind.i64.wrap (N.getD k.toNat 0+1)) (by rw[C.1];omega);rw[IntWalk.i64_in _ (by omega),iN (by omega),iN (by omega)]at b;unfold inc;rw[IntWalk.i64_in _ (by omega)];omega
   refine My D f ⟨h.len,λj L=>by rw[h.eq j L,wQj (λn _=>a n)],λz G=>h.pd z (by simp[G]),λn u=>h.me n ((a n).1 u),λn u lv ys K J y w=>?_,λr P=>?_⟩ I.1 (by omega)
   ·rcases h.cl n ((a n).1 u) lv ys K J y w with b|b
    ·exact .inl ((a _).2 b)
    rcases mA b with b|b
    ·exact .inr b
    rw[mS b];exact .inl ((a _).2 B)
   rcases h.rt r P with b|b
   ·exact .inl ((a _).2 b)
   rcases mA b with b|b
   ·exact .inr b
   rw[mS b];exact .inl ((a _).2 B)
  rw[Px U o];have m:=Ar o;have b:=E k.toNat;rw[iP rfl]at b;have Q:N.getD k.toNat 0=0:=by omega
  have d:=TJ (lv:=(l:Int)) (xs:=xs) (R:=R) (st:=st0) h.len m.ref (λj=>by have:=h.bd D j;have:=m.len;omega);obtain⟨Z,V⟩:∃Z,Z=(xs.foldl (Cj (l:Int)) (R,st0)).1:=⟨_,rfl⟩;obtain⟨F,H⟩:∃F,F=(xs.foldl (Cj (l:Int)) (R,st0)).2:=⟨_,rfl⟩;rw[<-V,<-H]at d⊢;have a:∀j,0<(inc N k.toNat).getD j 0↔j=k.toNat\/0<N.getD j 0:=λj=>by
   rw[E j];split
   ·rename_i e;exact⟨λ_=>.inl e,λ_=>by omega⟩
   rename_i e;exact⟨.inr,λh=>h.resolve_left e⟩
  have G:WL (inc N k.toNat)+1=WL N:=by
   have c:=KN (nodes:=N) (k:=k.toNat) (v:=IntKind.i64.wrap (N.getD k.toNat 0+1)) (by rw[C.1];omega);rw[IntWalk.i64_in _ (by omega),iP Q,iN (by omega)]at c;unfold inc;rw[IntWalk.i64_in _ (by omega)];omega
  have aa:=m.len;have ab:=d.few;refine My D f ⟨by rw[d.len];exact h.len,λj L=>?_,λz G=>?_,λn u=>?_,λn u lv ys K J y w=>?_,λr P=>?_⟩ I.1 (by omega)
  ·rw [d.eq j L,h.eq j L,wVm (p:=N) (q:=inc N k.toNat) (n:=k.toNat) (by omega) (by omega) (by omega) (λi S=>by rw[E i,iN S]) j];have T:cnt s k.toNat j=GI xs j:=by unfold cnt;rw[o]
   rw[T];omega
  ·rcases d.back z G with c|⟨X,y,w,rfl⟩
   ·exact h.pd z (by simp[c])
   obtain⟨M,rfl⟩:∃M,l=M+1:=⟨l-1,by omega⟩;obtain⟨zs,h5,_,h6⟩:=BE O w;have:=m.up X y w;have:=m.ref y w;exact⟨by omega,.kid Y o X w,M,zs,h5,h6⟩
  ·rcases (a n).1 u with rfl|u
   ·exact Y
   exact h.me n u
  ·rcases (a n).1 u with rfl|u
   ·rw [o]at K;cases K;exact .inr (d.all J y w (m.up J y w))
   rcases h.cl n u lv ys K J y w with c|c
   ·exact .inl ((a _).2 (.inr c))
   rcases mA c with c|c
   ·exact .inr (d.sub _ c)
   rw[mS c];exact .inl ((a _).2 (.inl rfl))
  rcases h.rt r P with c|c
  ·exact .inl ((a _).2 (.inr c))
  rcases mA c with c|c
  ·exact .inr (d.sub _ c)
  rw[mS c];exact .inl ((a _).2 (.inl rfl))
theorem wQk{r:Int}(h:Em s r=true):(8<=r/\r<256)/\∃(l:Nat)(ys:List It),Ag s r.toNat=some ((l:Int),ys)/\A1 s l ys:=by
 obtain⟨g,f,d,xs,_,c,b⟩:=K4 h;have a:=(Ar c).lev;refine⟨⟨g,f⟩,d.toNat,xs,by rw[c,Int.toNat_of_nonneg a.1],λe=>?_⟩;unfold Cd at b;rw[iN e]at b;exact b
theorem wVc(N:List Int):WL N<=N.length:=List.countP_le_length
theorem Frj.more(h:Frj s rs [] R N){r:Int}(g:Em s r=true)(b:rs.length<=100000):Frj s (rs++[r]) [r] (inc R r.toNat) N:=by
 obtain⟨f,l,ys,d,c⟩:=wQk g;have D:=h.bd b r.toNat;have w:=λj=>wWq (r:=R) (k:=r.toNat) (by rw[h.len];omega) (by omega) j;refine⟨by rw[Dn];exact h.len,λk m=>?_,λz a=>?_,λn i=>(h.me n i).mono (λr g=>by simp[g]),λn i o ys C B y u=>.inl ((h.cl n i o ys C B y u).resolve_right (by simp)),λz a=>?_⟩
 ·rw [w k,List.count_append,List.count_singleton];by_cases e:k=r.toNat
  ·rw [iP e,iP (by simp;omega),<-e,h.eq k m];push_cast;omega
  rw[iN e,iN (by simp;omega),h.eq k m];simp
 ·rw [mS a];exact⟨f,.root (by simp),l,ys,d,c⟩
 rcases mA a with a|a
 ·exact .inl ((h.rt z a).resolve_right (by simp))
 exact .inr a
theorem Pw:∀{a rs1 R N R' b:List Int}{g:Nat},Frj s rs1 [] R N->Few (g+1600*a.length) N->(rs1++a).length<=100000->Cu s a R N=some (R',b)->Frj s (rs1++a) [] R' b
 |[],rs1,R,N,R',b,g,h,c,d,e=>by
  rw[Cu]at e;cases e;rw[List.append_nil];exact h
 |r::a,rs1,R,N,R',b,g,h,c,d,e=>by
  rw[Cu]at e;split at e
  ·rename_i i;rw[List.length_append,List.length_cons]at d;have f:=My (s:=s) (rs:=rs1++[r]) (by rw[List.length_append,List.length_singleton];omega) F0 (g:=g+1600*a.length) (h.more i (by omega)) (c.less (by rw[List.length_cons];unfold F0;omega)) (by
    have:=wVc N;rw[c.1]at this;rw[List.length_singleton];unfold F0;omega)
   have j:=Pw (rs1:=rs1++[r]) f.1 f.2 (by simp;omega) e;rwa[List.append_assoc,List.singleton_append]at j
  cases e
theorem Frj.start(s:Sto):Frj s [] [] zI zI:=by
 have a:∀k,zI.getD k 0=0:=λk=>by unfold zI;rw[List.getD,List.getElem?_replicate];split<;>rfl
 refine⟨Kd,λk e=>?_,λz a=>(by cases a),λn c=>?_,λn c=>?_,λr d=>(by cases d)⟩
 ·rw [a];have:sg s zI k=0:=by
   unfold sg;have:=Tg (f:=λn=>if 0<zI.getD n 0 then cnt s n k else 0) (b:=0) (λn=>by rw[a,iN (by omega)];omega) 256;omega
  rw[this];simp
 ·rw [a]at c;omega
 rw[a]at c;omega
theorem wAq(a:rs.length<=600)(h:Cu s rs zI zI=some (R,N)):Fin s rs R N:=
 (Pw (rs1:=[]) (g:=0) (Frj.start s) (wFw _ (by omega)) (by simp;omega) h).fin
def S6(p:Po):List Vo:=(AT p.st p.root).map Cz
def Bc(p:Po):List Int:=DY p.root p.dead (S6 p)
structure Fine(p:Po)(S:List Nat)(hs:List Int):Prop where
 en:En p.st S (hs++Bc p)
 ins:∀r∈Bc p,(8<=r/\r<256)/\r.toNat∈S/\(AN p.st r).2=0
 vol:∀x∈AT p.st p.root,Dr x/\x.key.id≠0/\x.key.id<p.next
 few:(AT p.st p.root).length<=16
 dead:p.dead.length<=40
 next:0<=p.next/\p.next<4294967296
 gen:0<=p.gen
variable{s:Sto}
theorem Ja{r:Int}(h:(AN s r).2=0):Au s/\(8<=r/\r<256)/\¬s.now.getD r.toNat 0=0/\∃(l:Nat)(xs:List It),Ag s r.toNat=some ((l:Int),xs)/\A1 s l xs/\AN s r=((l:Int)+1,0):=by
 by_cases a:Au s
 ·by_cases d:r<8\/256<=r
  ·unfold AN at h;rw[iP a,iP d]at h;cases h
  by_cases c:s.now.getD r.toNat 0=0
  ·unfold AN at h;rw[iP a,iN d,iP c]at h;cases h
  cases g:Ag s r.toNat with
  |none=>unfold AN at h;rw[iP a,iN d,iN c,g]at h;cases h
  |some q=>
   obtain⟨b,xs⟩:=q
   have i:=(Ar g).lev
   have e:AN s r=if A1 s b.toNat xs then (b+1,0)else (0,8):=by unfold AN;rw[iP a,iN d,iN c,g]
   by_cases f:A1 s b.toNat xs
   ·exact ⟨a,by omega,c,b.toNat,xs,by rw[Int.toNat_of_nonneg i.1],f,by rw[e,iP f,Int.toNat_of_nonneg i.1]⟩
   rw[e,iN f]at h;cases h
 unfold AN at h;rw[iN a]at h;cases h
theorem wNd{r:Int}(h:(AN s r).2=0):Em s r=true:=by
 obtain⟨_,c,_,l,xs,d,b,_⟩:=Ja h;unfold Em;rw[Ft c d (λh=>aD h.1 (by decide))];show (Cd s (l:Int) xs).is=true;unfold Cd;by_cases a:xs=[]
 ·rw [iP a];rfl
 rw[iN a];exact b a
variable{n:Nat}
theorem Tr(hs:Au s)(h:¬s.now.getD n 0=0):8<=n/\n<256:=
 Classical.byContradiction λa=>h (wRo hs.2.1 (by omega))
theorem Jq(h:Ag s n=none)(k:Int):(Bu s n).count k=0:=by rw[EG h];rfl
variable{ys:List It}
theorem wFh{k:Int}(h:0<(ys.map (·.ref)).count k):∃x∈ys,x.ref=k:=by
 obtain⟨x,a,e⟩:=List.mem_map.1 (List.count_pos_iff.1 h);exact⟨x,a,e⟩
variable{S:List Nat}
theorem wTt{k:Int}(h:0<wS s S k):∃m∈S,∃a ys x,Ag s m=some (a,ys)/\x∈ys/\x.ref=k:=by
 induction S with
 |nil=>simp[wS]at h
 |cons m S d=>
  unfold wS at h d
  rw[List.map_cons,List.sum_cons]at h
  by_cases c:0<(Bu s m).count k
  ·cases b:Ag s m with
   |none=>rw[Jq b]at c;omega
   |some q=>
    obtain⟨a,ys⟩:=q
    rw[CB b]at c
    obtain⟨x,g,e⟩:=wFh c
    exact⟨m,by simp,a,ys,x,b,g,e⟩
  obtain⟨f,i,j⟩:=d (by omega)
  exact⟨f,by simp[i],j⟩
variable{hs:List Int}
theorem wGh{rs:List Int}(g:En s S (hs++rs))(y:∀k∈hs,k.toNat∉S):∀(d n:Nat)(lv:Int)(ys:List It),n∈S->Ag s n=some (lv,ys)->6<=lv+d->Rcs s rs n
 |0,n,lv,ys,_,h,E=>by have:=(Ar h).lev;omega
 |d+1,n,lv,ys,z,h,E=>by
  have b:=B4 h;obtain⟨G,B⟩:=Tr g.ok b;have o:=g.enough (n:Int) (by omega) (by omega);rw[tN]at o;have w:0<(s.now.getD n 0).toNat:=by
   rcases Nat.eq_zero_or_pos (s.now.getD n 0).toNat with i|i
   ·exact aD (UInt8.toNat.inj i) b
   exact i
  by_cases C:0<wS s S n
  ·obtain ⟨m,l,c,f,x,a,j,e⟩:=wTt C;have D:=(Ar a).lev;by_cases i:c=0
   ·subst i;have:=g.disj m l f a x j (by omega);rw[e,tN]at this;exact aD z this
   obtain⟨_,zs,u⟩:=g.closed m l c f a (by omega) x j;rw[e,tN,h]at u;have H:lv=c-1:=by simp at u;exact u.1
   have:=Rcs.kid (wGh g y d m c f l a (by omega)) a (by omega) j;rwa[e,tN]at this
  have:(n:Int)∈hs++rs:=List.count_pos_iff.1 (by omega);have:=Rcs.root (s:=s) ((mA this).resolve_left λF=>y _ F (by rw[tN];exact z));rwa[tN]at this
theorem Fine.live{p:Po}(h:Fine p S hs)(s:n∈S)(z:¬p.st.now.getD n 0=0)(B:∀k∈hs,k.toNat∉S:=by simp):Rcs p.st (Bc p) n:=by
 have d:=h.en;cases g:Ag p.st n with
 |some q=>exact wGh d B 6 n q.1 q.2 s g (by have:=(Ar g).lev;omega)
 |none=>
  exfalso
  obtain⟨G,D⟩:=Tr d.ok z
  have o:=d.enough (n:Int) (by omega) (by omega)
  rw[tN]at o
  have w:0<(p.st.now.getD n 0).toNat:=by
   rcases Nat.eq_zero_or_pos (p.st.now.getD n 0).toNat with f|f
   ·exact aD (UInt8.toNat.inj f) z
   exact f
  by_cases E:0<wS p.st S n
  ·obtain ⟨m,y,c,b,x,a,u,e⟩:=wTt E
   have F:=(Ar a).lev
   by_cases f:c=0
   ·subst f
    have:=d.disj m y b a x u (by omega)
    rw[e,tN]at this;exact this s
   obtain⟨_,zs,C⟩:=d.closed m y c b a (by omega) x u
   rw[e,tN,g]at C;cases C
  have j:(n:Int)∈hs++Bc p:=List.count_pos_iff.1 (by omega)
  have j:=(mA j).resolve_left λi=>B _ i (by rw[tN];exact s)
  obtain⟨_,_,_,l,xs,i,_⟩:=Ja (h.ins _ j).2.2
  rw[tN,g]at i;cases i
theorem Fine.rcs{p:Po}(h:Fine p S hs)(a:Rcs p.st (Bc p) n):n∈S/\Ag p.st n≠none:=by
 induction a with
 |root a=>
  obtain⟨_,c,i⟩:=h.ins _ a
  obtain⟨_,_,_,l,xs,d,_⟩:=Ja i
  exact⟨c,by rw[d];simp⟩
 |kid _ b g f e=>
  obtain⟨d,zs,c⟩:=h.en.closed _ e.1 _ _ b g _ f
  exact⟨d,by rw[c];simp⟩
variable{f:Nat->Nat}
theorem wGp:∀{S:List Nat},S.Nodup->(∀n∈S,f n≠0->n<256)->(S.map f).sum=((List.range 256).map λn=>if n∈S then f n else 0).sum
 |[],_,_=>by
  have:((List.range 256).map λn=>if n∈([]:List Nat)then f n else 0)=(List.range 256).map λ_=>0:=List.map_congr_left λn _=>by simp
  show 0=_;rw[this];decide +kernel
 |a::S,b,c=>by
  obtain⟨i,m⟩:=List.nodup_cons.1 b;rw[List.map_cons,List.sum_cons,wGp m λn b=>c n (by simp[b])];by_cases d:a<256
  ·have:=Td (f:=λn=>if n∈S then f n else 0) (g:=λn=>if n∈a::S then f n else 0) (x:=a) (l:=List.range 256) List.nodup_range (List.mem_range.2 d) (λy _ k=>by simp[k]);simp only[List.mem_cons,true_or,if_true,i,if_false]at this⊢;omega
  have j:f a=0:=Classical.byContradiction λh=>d (c a (by simp) h);rw[j,Nat.zero_add];refine cA List.sum (List.map_congr_left λn _=>?_);by_cases e:n=a
  ·subst e;simp[i,j]
  simp[e]
variable{k:Nat}{xs:List It}
theorem wTf(h:0<k):GI xs k=(((xs.map (·.ref)).count (k:Int):Nat):Int):=by
 unfold GI;rw[List.count_eq_countP,List.countP_map,List.countP_eq_length_filter];congr 2;refine List.filter_congr λx _=>?_;by_cases e:x.ref=(k:Int)
 ·have a:x.ref≠0:=by omega
  simp[e,Function.comp];omega
 simp[e,Function.comp]
theorem wXo(s:Sto)(n:Nat)(h:0<k):cnt s n k=(((Bu s n).count (k:Int):Nat):Int):=by
 unfold cnt;cases a:Ag s n with
 |none=>rw[Jq a];rfl
 |some q=>rw[CB (lv:=q.1) (ys:=q.2) a];exact wTf h
variable{g:Nat->Nat}
theorem Te{f:Nat->Int}:∀{l:List Nat},(∀n∈l,f n=(g n:Int))->(l.map f).sum=(((l.map g).sum:Nat):Int)
 |[],_=>rfl
 |a::l,h=>by
  rw[List.map_cons,List.sum_cons,List.map_cons,List.sum_cons,h a (by simp),Te λn b=>h n (by simp[b])];push_cast;rfl
variable{R:List Int}
theorem Fine.sg{p:Po}(h:Fine p S hs){N:List Int}(d:Fin p.st (Bc p) R N)(hk:0<k/\k<256):
  R.getD k 0<=((p.st.now.getD k 0).toNat:Int)/\(hs=[]->R.getD k 0=((p.st.now.getD k 0).toNat:Int)):=by
 have u:=d.eq k hk.2;have c:=h.en.enough (k:Int) (by omega) (by omega);rw[tN,List.count_append]at c;have j:=wGp (f:=λn=>(Bu p.st n).count (k:Int)) h.en.nodup λn _ m=>by
  cases b:Ag p.st n with
  |none=>exact aD (Jq b _) m
  |some q=>exact wJn h.en b
 have o:wS p.st S (k:Int)=((List.range 256).map λn=>if n∈S then (Bu p.st n).count (k:Int)else 0).sum:=j;have s:Go.Proofs.YtjheijhahehnmaaGreatDoor.sg p.st N k=((((List.range 256).map λn=>if 0<N.getD n 0 then (Bu p.st n).count (k:Int)else 0).sum:Nat):Int):=by
  unfold Go.Proofs.YtjheijhahehnmaaGreatDoor.sg;exact Te λn _=>by split<;>simp[wXo p.st n hk.1]
 have g:((List.range 256).map λn=>if 0<N.getD n 0 then (Bu p.st n).count (k:Int)else 0).sum<=((List.range 256).map λn=>if n∈S then (Bu p.st n).count (k:Int)else 0).sum:=Go.Proofs.YtjheijhahehnmaaGreatDoor.sum_le λn _=>by
  by_cases a:0<N.getD n 0
  ·rw [iP a,iP (h.rcs ((d.on n).1 a)).1];exact lR
  rw[iN a];exact zL
 refine⟨by omega,λe=>?_⟩;subst e;have i:((List.range 256).map λn=>if 0<N.getD n 0 then (Bu p.st n).count (k:Int)else 0).sum=((List.range 256).map λn=>if n∈S then (Bu p.st n).count (k:Int)else 0).sum:=cA List.sum (List.map_congr_left λn _=>by
  by_cases a:n∈S
  ·rw [iP a];cases b:Ag p.st n with
   |none=>rw[Jq b];simp
   |some q=>rw[iP ((d.on n).2 (h.live a (B4 b)))]
  rw[iN a,iN λl=>a (h.rcs ((d.on n).1 l)).1])
 simp only[List.count_nil,Nat.zero_add]at c;omega
theorem Nm:∀{rs refs nodes:List Int},(∀r∈rs,Em s r=true)->∃x,Cu s rs refs nodes=some x
 |[],refs,nodes,_=>⟨_,rfl⟩
 |r::rs,refs,nodes,h=>by
  rw[Cu,iP (h r (by simp))];exact Nm λz a=>h z (by simp[a])
theorem Fine.cens{p:Po}(h:Fine p S hs):∃R N,Go.Proofs.YtjheijhahehnmaaGreatDoor.cens p.st p.root p.next p.dead=some (S6 p,R,N)/\Fin p.st (Bc p) R N:=by
 have a:=(h.ins p.root (by unfold Bc DY;simp)).2.2;obtain⟨c,d,_,l,xs,k,_⟩:=Ja a;have u:Qa p.st p.root (-1)=some ((l:Int),xs):=Ft d k (λh=>aD h.1 (by decide));have y:AT p.st p.root=Ax p.st l xs:=by unfold AT;rw[k];simp
 have m:CY p.st p.next ((l:Int)).toNat xs []=some (S6 p):=by
  rw[tN,Jf,<-y,NZ (by simp),iP ⟨h.vol,by simpa using h.few⟩];rfl
 obtain⟨⟨R,N⟩,j⟩:=Nm (s:=p.st) (rs:=Bc p) (refs:=zI) (nodes:=zI) λr d=>wNd (h.ins r d).2.2;have b:(Bc p).length<=600:=by have F:=h.dead;have E:=h.few;unfold Bc DY S6;simp;omega
 have f:=wAq b j;have e:enough p.st R:=λi w=>?_
 ·exact ⟨R,N,by rw[Q1 ⟨c,h.dead,wNd a⟩ u m j,iP e],f⟩
 by_cases z:0<i
 ·exact (h.sg f ⟨z,w⟩).1
 obtain rfl:i=0:=by omega
 have D:=f.eq 0 (by omega);have C:(Bc p).count ((0:Nat):Int)=0:=List.count_eq_zero.2 λo=>by have:=(h.ins _ o).1;omega
 have B:Go.Proofs.YtjheijhahehnmaaGreatDoor.sg p.st N 0=0:=by
  unfold Go.Proofs.YtjheijhahehnmaaGreatDoor.sg;rw[Te (g:=λ_=>0) λn _=>by
   split
   ·unfold cnt;split
    ·unfold GI;rw[List.filter_eq_nil_iff.2 λx _=>by simp];rfl
    rfl
   rfl]
  have:((List.range 256).map λ_:Nat=>(0:Nat)).sum=0:=by decide +kernel
  rw[this];rfl
 rw[D,C,B];omega
theorem Fine.chk{p:Po}(h:Fine p S hs):AO p=0:=by
 obtain⟨R,N,a,_⟩:=h.cens;exact poChk_is.2 ⟨_,a⟩
theorem Fine.cnt{p:Po}(h:Fine p S []):wXp p=true:=cntB_iff.2 ⟨h.chk,λj d c=>by
 obtain⟨R,N,a,b⟩:=h.cens
 have:CS p=R:=by unfold CS;rw[a]
 rw[this]
 exact(h.sg b ⟨by omega,c⟩).2 rfl⟩
theorem Fine.nodes{p:Po}(h:Fine p S hs)(d:n∈S)(a:¬p.st.now.getD n 0=0)(b:∀k∈hs,k.toNat∉S:=by simp):(n:Int)∈CL p:=by
 obtain⟨R,N,c,e⟩:=h.cens;have:CL p=NR N 256:=by unfold CL;rw[c]
 rw[this];unfold NR;exact List.mem_map.2 ⟨n,List.mem_filter.2 ⟨List.mem_range.2 (Tr h.en.ok a).2,dT ((e.on n).2 (h.live d a b))⟩,rfl⟩
abbrev KP(l:List It):List Int:=l.map λy=>(Cz y).root
theorem B7(p:Po):Bc p=(p.root::p.dead)++KP (AT p.st p.root):=by simp_all [Bc,DY,S6,KP]
def Oks(s:Sto)(S:List Nat)(t:Sto)(S':List Nat)(R:List Int):Prop:=∀r∈R,r.toNat∈S->(AN s r).2=0->AN t r=AN s r/\AT t r=AT s r/\r.toNat∈S'
variable{R:List Int}{S S':List Nat}{s:Sto}
theorem Kp.oks{t:Sto}(h:Kp s S t S' R)(a:Au t):Oks s S t S' R:=λr b d c=>h.tree a b d c
theorem Oks.sub{t:Sto}{R':List Int}(h:Oks s S t S' R)(hs:∀r∈R',r∈R):Oks s S t S' R':=λr a=>h r (hs r a)
abbrev ES(p:Po)(t:Sto):Po:=⟨t,p.gen,p.root,p.next,p.dead⟩
variable{hs:List Int}
theorem Fine.move{p:Po}{t:Sto}{hs':List Int}(h:Fine p S hs)(hk:Oks p.st S t S' (Bc p))(f:En t S' (hs'++Bc p)):Fine (ES p t) S' hs'/\AT t p.root=AT p.st p.root/\Bc (ES p t)=Bc p:=by
 have b:p.root∈Bc p:=by grind[B7]
 have d:=(hk _ b (h.ins _ b).2.1 (h.ins _ b).2.2).2.1;have a:Bc (ES p t)=Bc p:=by simp_all [B7,KP,AT]
 refine⟨⟨by rw[a];exact f,λr b=>?_,λx e=>?_,?_,h.dead,h.next,h.gen⟩,d,a⟩
 ·rw [a]at b;obtain⟨l,i,g⟩:=h.ins r b;obtain⟨k,_,j⟩:=hk r b i g;grind
 ·have c:x∈AT t p.root:=e;rw[d]at c;exact h.vol x c
 show (AT t p.root).length<=16;rw[d];exact h.few
variable{k:Int}
theorem wVo{t:Sto}(h:Km s k=.ok t):(8<=k/\k<256)/\Bj s k.toNat=0/\t=A7 s k.toNat/\¬s.now.getD k.toNat 0=0/\Au s:=by
 grind[Km,DJ,Bj]
theorem Fine.share{p:Po}{t:Sto}(h:Fine p S hs)(c:Km p.st k=.ok t):Fine (ES p t) S (k::hs)/\Oks p.st S t S (k::hs++Bc p)/\Bc (ES p t)=Bc p:=by
 obtain⟨j,d,rfl,_,b⟩:=wVo c;obtain⟨e,g⟩:=FK (by have:=b.2.1.1;omega) d;have a:=h.en.share j d;have f:Oks p.st S (A7 p.st k.toNat) S (k::hs++Bc p):=(Kp.ext e λn i _=>i).oks a.ok;have l:=h.move (f.sub λr c=>by simp[c]) (hs':=k::hs) a;grind
theorem wXv(h:(AN s k).2=0):DJ s k=0:=by
 obtain⟨c,b,a,_⟩:=Ja h;grind[DJ]
theorem Fine.leave{p:Po}(h:Fine p S (k::hs))(f:k.toNat∈S)(c:(AN p.st k).2=0):∃t,Kb p.st k=.ok t/\Fine (ES p t) S hs:=by
 obtain⟨_,e,_,l,xs,a,_⟩:=Ja c;obtain⟨t,i,b,g⟩:=GX (s:=p.st) (S:=S) (R:=hs++Bc p) h.en e f a;refine⟨t,by unfold Kb;rw[iP (wXv c)];unfold lvS;rw[i],?_⟩;exact(h.move ((Kp.thin g b).oks b.ok |>.sub λr d=>List.mem_append_right _ d) b).1
variable{α:Type}
theorem wUp{p q r:α->Bool}:∀{l:List α},(∀y∈l,(p y=true/\q y=false/\r y=false)\/(p y=false/\q y=true/\r y=false)\/(p y=false/\q y=false/\r y=true))->(l.filter p++(l.filter q++l.filter r)).Perm l
 |[],_=>List.Perm.refl _
 |y::l,h=>by
  have d:=wUp (p:=p) (q:=q) (r:=r) (l:=l) λz e=>h z (List.mem_cons_of_mem _ e);rcases h y (by simp)with⟨c,b,a⟩|⟨c,b,a⟩|⟨c,b,a⟩
  ·simp only[List.filter_cons,c,b,a,if_true,if_false,Bool.false_eq_true,List.cons_append];exact d.cons _
  ·simp only[List.filter_cons,c,b,a,if_true,if_false,Bool.false_eq_true,List.cons_append];exact List.perm_middle.trans (d.cons _)
  simp only[List.filter_cons,c,b,a,if_true,if_false,Bool.false_eq_true];exact(List.Perm.append_left _ List.perm_middle).trans (List.perm_middle.trans (d.cons _))
variable{a:Ky}
theorem wDp{b:Ky}(d:Ap a b=false)(c:Ap b a=false):a=b:=by
 unfold Ap at d c;have d:=oF d;have c:=oF c;obtain⟨j,i,h⟩:=a;obtain⟨g,f,e⟩:=b;grind
theorem G1(a:Ky):Ap a a=false:=by grind[Ap]
theorem wKk{b:Ky}(h:Ap a b=true):Ap b a=false:=by
 grind[Ap]
def Gk(k:Ky)(y:It):Bool:=decide (y.key=k)
theorem MR(x:It)(l:List It):(C5 x l++l.filter (Gk x.key)).Perm (x::l):=by
 have c:=wUp (p:=λy:It=>Ap y.key x.key) (q:=λy=>Ap x.key y.key) (r:=Gk x.key) (l:=l) λy _=>by
  cases a:Ap y.key x.key with
  |true=>exact .inl ⟨rfl,wKk a,dF λe=>by rw[e,G1]at a;cases a⟩
  |false=>cases b:Ap x.key y.key with
   |true=>exact .inr (.inl ⟨rfl,rfl,dF λe=>by rw[e,G1]at b;cases b⟩)
   |false=>exact .inr (.inr ⟨rfl,rfl,dT (wDp a b)⟩)
 grind[C5]
theorem wGf{v:Vo}(g:0<=v.root/\v.root<65536)(h:0<=v.frm/\v.frm<4294967296):Cz (Ce v)=v:=by
 have e:wTu v=JU v.root++([bB v.frz]++Cw v.frm):=by grind[wTu]
 have d:Ee (wTu v) 0 2=v.root:=by rw[JK (xs:=wTu v) (a:=0) (n:=2) [] (JU v.root) _ e rfl rfl,Uv g]
 have c:Ee (wTu v) 3 4=v.frm:=by grind[JK,wTu,JU,bB,Cw,JP]
 have b:(wTu v).getD 2 0=bB v.frz:=by rw[e];rfl
 obtain⟨i,r,f,m⟩:=v;unfold Cz Ce;simp only at d c b⊢;rw[d,c,b];cases f<;>rfl
theorem wTg{p:Po}(h:AO p=0):(∀x∈AT p.st p.root,Dr x/\x.key.id≠0/\x.key.id<p.next)/\(AT p.st p.root).length<=16/\p.dead.length<=40:=by
 obtain⟨⟨d,R,N⟩,a⟩:=poChk_is.1 h;unfold cens at a;split at a
 ·rename_i f;split at a
  ·cases a
  rename_i e xs c;obtain⟨_,_,b,_⟩:=Tv c;grind[Ar,AT,Ax,Jf,NZ]
 grind
theorem as_ok{p:Po}{v:Vo}(h:Rg p v=0):v.id≠0/\v.id<p.next/\8<=v.root/\v.root<256/\(AN p.st v.root).2=0:=by
 grind[Rg]
theorem Zq{t:Sto}{root n:Int}{x:It}(h:HG s root x=.ok (t,n)):DF s root x=0:=Classical.byContradiction λa=>by unfold HG at h;rw[iP a]at h;cases h
def MJ(p:Po)(i:Int):List Int:=KP ((AT p.st p.root).filter (Gk (wDo i)))
variable{l:List It}
theorem wAg{x:It}(k:Int):(KP (C5 x l)).count k+(KP (l.filter (Gk x.key))).count k=((Cz x).root::KP l).count k:=by
 have:=((MR x l).map λy=>(Cz y).root).count_eq k;grind
theorem Fine.set{p q:Po}{v:Vo}(h:Fine p S (v.root::hs))(I:v.root.toNat∈S)(w:0<=v.id)(z:0<=v.frm/\v.frm<4294967296)(c:Ej p v=.ok q):
  ∃S',Fine q S' (MJ p v.id++hs)/\AT q.st q.root=C5 (Ce v) (AT p.st p.root)/\Oks p.st S q.st S' (v.root::hs++(p.dead++KP (AT p.st p.root)))/\q.gen=p.gen/\q.next=p.next/\q.dead=p.dead/\Apa p.st S S':=by
 unfold Ej at c;split at c
 ·rename_i H;obtain⟨F,E,o,f,G⟩:=as_ok H;split at c
  ·cases c
  rename_i t n u;split at c
  ·rename_i s;cases c;have T:=h.next;have b:p.root∈Bc p:=by grind[B7]
   have d:Cz (Ce v)=v:=wGf ⟨by omega,by omega⟩ z;have B:En p.st S ((Ce v).ref::p.root::(v.root::hs++(p.dead++KP (AT p.st p.root)))):=h.en.less λk D=>by
    rw[B7];simp only[List.count_cons,List.count_append,List.cons_append];rw[show ((Ce v).ref==k)=false from beq_false_of_ne (by show (0:Int)≠k;omega)];simp only[Bool.false_eq_true,if_false];omega
   obtain⟨e,U,_⟩|⟨N,O,S',J,P⟩:=Zo (Zq u) (x:=Ce v) ⟨⟨by show (0:Int)<=1;omega,by show (1:Int)<256;omega⟩,⟨w,by show v.id<_;omega⟩,by show (0:Int)<=0;omega,by show (0:Int)<4294967296;omega⟩ (λe=>aD rfl e) B (h.ins _ b).2.1
   ·grind
   rw[J]at u;cases u;obtain⟨M,L,K⟩:=wTg s;have i:AT t n=C5 (Ce v) (AT p.st p.root):=P.all;have m:Bc ⟨t,p.gen,n,p.next,p.dead⟩=(n::p.dead)++KP (C5 (Ce v) (AT p.st p.root)):=by simp_all [B7,KP,AT]
   have g:=λk=>wAg (x:=Ce v) (l:=AT p.st p.root) k;rw[d]at g;refine⟨S',⟨P.en.less λk D=>?_,λr a=>?_,M,L,K,h.next,h.gen⟩,i,P.other,rfl,rfl,rfl,P.apa⟩
   ·grind [MJ,wDo,Ce]
   rw[m,List.cons_append]at a;rcases List.mem_cons.1 a with rfl|a
   ·exact ⟨P.rng,P.inS,P.chk⟩
   have f:r=v.root\/r∈Bc p:=by
    grind[B7,MR,Ce,AT]
   have C:(8<=r/\r<256)/\r.toNat∈S/\(AN p.st r).2=0:=f.elim (λe=>by rw[e];exact⟨⟨o,by omega⟩,I,G⟩) (h.ins r);obtain⟨R,_,Q⟩:=P.other r (by
    rcases mA a with a|a
    ·simp [a]
    obtain⟨y,j,e⟩:=List.mem_map.1 a;rcases List.mem_cons.1 ((MR (Ce v) (AT p.st p.root)).subset (List.mem_append_left _ j))with rfl|j
    ·rw [d]at e;simp[e]
    exact List.mem_append_right _ (List.mem_append_right _ (List.mem_map.2 ⟨y,j,e⟩))) C.2.1 C.2.2
   grind
  grind
 grind
theorem Zu:∀{l:List It}{x:It},Srt l->x∈l->l.filter (Gk x.key)=[x]
 |y::l,x,hs,a=>by
  obtain⟨c,f⟩:=List.pairwise_cons.1 hs;rcases List.mem_cons.1 a with rfl|a
  ·have b:l.filter (Gk x.key)=[]:=List.filter_eq_nil_iff.2 λz d=>by
    have:=c z d;intro e;rw[show z.key=x.key from oT e,G1]at this;cases this
   rw[List.filter_cons,b,iP (show Gk x.key x=true from dT rfl)]
  have b:¬Gk x.key y=true:=λe=>by
   have:=c x a;rw[show y.key=x.key from oT e,G1]at this;cases this
  rw[List.filter_cons,iN b,Zu f a]
variable{S:List Nat}{hs:List Int}
theorem Fine.srt{p:Po}(h:Fine p S hs):Srt (AT p.st p.root):=by
 have a:p.root∈Bc p:=by grind[B7]
 obtain⟨_,_,_,l,xs,c,b,_⟩:=Ja (h.ins _ a).2.2;grind[AT,Fd]
theorem Fine.volx{p:Po}(h:Fine p S hs){q:Int}(b:BQ p q=0):∃x∈AT p.st p.root,As p q=Cz x/\x.key=wDo q/\MJ p q=[(As p q).root]/\(As p q).root∈Bc p:=by
 obtain⟨R,N,i,_⟩:=h.cens;have g:=GL b;replace b:(match Kf (S6 p) q with|none=>(6:Int)|some _=>0)=0:=by unfold BQ at b;rw[i]at b;exact b
 have c:As p q=(Kf (S6 p) q).getD ⟨0,0,false,0⟩:=by unfold As;rw[i]
 cases f:Kf (S6 p) q with
 |none=>rw[f]at b;cases b
 |some v=>
  rw[f]at c
  have k:v∈S6 p:=List.mem_of_find?_eq_some f
  obtain⟨x,a,e⟩:=List.mem_map.1 k
  have d:As p q=Cz x:=by rw[c,e];rfl
  have j:x.key=wDo q:=by rw[<-(h.vol x a).1.2,<-g,d];rfl
  refine⟨x,a,d,j,?_,?_⟩
  ·unfold MJ;rw[<-j,Zu h.srt a,d];rfl
  rw[B7];exact List.mem_append_right _ (List.mem_map.2 ⟨x,a,by rw[d]⟩)
variable{i:Int}
theorem Fine.old_none{p:Po}(h:Fine p S hs)(c:p.next<=i):MJ p i=[]:=by
 unfold MJ;rw[List.filter_eq_nil_iff.2 λy a e=>?_];rfl;have b:=(h.vol y a).2.2;rw[show y.key=wDo i from oT e]at b;grind[wDo]
theorem PI{r:Except Int Po}{q:Po}(h:PJ r=.ok q):r=.ok q:=by
 cases r with
 |error e=>cases h
 |ok p=>
  by_cases a:FM p.st
  ·rw [Xj a]at h;exact h
  rw[Xk a]at h;cases h
structure ByOk(p:Po)(t:Sto)(S:List Nat)(u:Sto)(n:Int)(S':List Nat)(hs':List Int):Prop where
 rng:8<=n/\n<256
 inS:n.toNat∈S'
 chk:(AN u n).2=0
 en:En u S' ((n::hs')++Bc p)
 oks:Oks t S u S' (Bc p)
 apa:Apa t S S'
variable{byF:Sto->Except Int (Sto×Int)}
theorem Fine.change{p r:Po}{hs':List Int}{q:Int}(h:Fine p S hs)(l:BQ p q=0)(M:0<=q)
  (o:∀t u n,Fine (ES p t) S ((As p q).root::hs)->Bc (ES p t)=Bc p->byF t=.ok (u,n)->∃S',ByOk p t S u n S' hs') (b:DD p (As p q) byF=.ok r) (e:∀k∈hs',k∈hs):∃S',Fine r S' hs'/\∀k∈hs',0<k/\k<256->k.toNat∉S->k.toNat∉S':=by
 obtain⟨x,K,H,W,hold,L⟩:=h.volx l;unfold DD TU at b;split at b
 ·cases b
 rename_i t D;obtain⟨w,_,c⟩:=h.share D;unfold YO at b;split at b
 ·cases b
 rename_i u n Q;obtain⟨S',B⟩:=o t u n w c Q;obtain⟨j,s,C⟩:=w.move (c.symm▸B.oks) (hs':=n::hs') (c.symm▸B.en);unfold wXr at b;split at b
 ·cases b
 rename_i V m;obtain⟨T,G,_,N,_,_,_,g⟩:=Fine.set (p:=ES p u) (v:=⟨(As p q).id,n,(As p q).frz,(As p q).frm⟩) (hs:=hs') j B.inS (by rw[GL l];exact M) (by rw[H];exact G5 _ _ _) m;have F:AT u p.root=AT p.st p.root:=by
  have a:p.root∈Bc p:=by grind[B7]
  have:=j.srt;rw[show AT u p.root=AT t p.root from s];exact((h.share D).2.1 p.root (List.mem_append_right _ a) (h.ins _ a).2.1 (h.ins _ a).2.2).2.1
 have d:MJ (ES p u) (As p q).id=[(As p q).root]:=by
  rw[<-hold,GL l];unfold MJ;show KP ((AT u p.root).filter _)=_;rw[F]
 rw[show (⟨(As p q).id,n,(As p q).frz,(As p q).frm⟩:Vo).id=(As p q).id from rfl,d]at G;have f:(As p q).root∈Bc (ES p u):=by grind
 obtain⟨_,J,z⟩:=j.ins _ f;obtain⟨i,_,I⟩:=N (As p q).root (by
  refine List.mem_append_right _ (List.mem_append_right _ ?_);show _∈KP (AT u p.root);rw[F];exact List.mem_map.2 ⟨x,K,by rw[H]⟩) J z
 obtain⟨U,P,R⟩:=G.leave I (by rw[i];exact z);rw[P]at b;cases b;refine⟨T,R,λk E ⟨i,y⟩ O=>g _ (j.en.live i y ?_) (B.apa _ (w.en.live i y ?_) O)⟩
 ·have:=List.count_pos_iff.2 (List.mem_cons_of_mem n E);rw[List.count_append];omega
 have:=List.count_pos_iff.2 (List.mem_cons_of_mem (As p q).root (e k E));rw[List.count_append];omega
theorem Fine.putH{p r:Po}{hs':List Int}{q:Int}{x:It}(h:Fine p S hs)(o:0<=q/\q<4294967296)(hk:Bh x.key)(d:(x.ref=0/\hs=hs')\/(hs=x.ref::hs'/\x.ref.toNat∉S))(a:Hy p q x=.ok r):∃S',Fine r S' hs'/\∀k∈hs',0<k/\k<256->k.toNat∉S->k.toNat∉S':=by
 unfold Hy at a;split at a
 ·rename_i j;split at a
  ·split at a
   ·cases a
   refine h.change (Ks j) o.1 (λt u n l b g=>?_) (PI a) λk hk=>by rcases d with⟨_,rfl⟩|⟨rfl,_⟩;exact hk;exact List.mem_cons_of_mem _ hk
   obtain⟨_,_,_,_,_,c⟩:=h.volx (Ks j);have s:=l.ins _ (b.symm▸c);have f:En t S (x.ref::(As p q).root::(hs'++Bc p)):=l.en.less λk hk=>by
    rw[b];rcases d with⟨i,z⟩|⟨i,_⟩
    ·rw [i,z];simp only[List.count_cons,List.count_append,List.cons_append];rw[show ((0:Int)==k)=false from beq_false_of_ne (by omega)];simp
    rw[i];simp only[List.count_cons,List.count_append,List.cons_append];omega
   obtain⟨e,D,_⟩|⟨B,C,S',w,P⟩:=Zo (Zq g) hk (λy=>d.elim (λe=>aD e.1 y) λe=>e.2) f s.2.1
   ·grind
   rw[w]at g;cases g;exact⟨S',P.rng,P.inS,P.chk,P.en,Oks.sub P.other λr m=>List.mem_append_right _ m,P.apa⟩
  grind
 grind
variable{k:Ky}
theorem Fine.delH{p r:Po}{q:Int}(h:Fine p S hs)(s:0<=q/\q<4294967296)(d:Nj p q k=.ok r):∃S',Fine r S' hs/\∀k∈hs,0<k/\k<256->k.toNat∉S->k.toNat∉S':=by
 unfold Nj at d;split at d
 ·rename_i i;refine h.change (Ks i) s.1 (λt u n m b a=>?_) (PI d) λ_ h=>h;obtain⟨_,_,_,_,_,f⟩:=h.volx (Ks i);have j:=m.ins _ (b.symm▸f);have l:(AN t (As p q).root).2=0:=j.2.2;cases c:NG t (As p q).root k with
  |none=>rw[TR l c]at a;cases a
  |some y=>
   have g:En t S ((As p q).root::(hs++Bc p)):=by have:=m.en;rw[b]at this;exact this
   obtain⟨e,w,_⟩|⟨B,C,S',z,P⟩:=Z1 l c g j.2.1
   ·rw [w]at a;cases a
   rw[z]at a;cases a
   exact⟨S',P.rng,P.inS,P.chk,P.en,Oks.sub P.other λr o=>List.mem_append_right _ o,P.apa⟩
 cases d
theorem Fine.next1{p:Po}(h:Fine p S hs)(b:p.next≠4294967295):Fine ⟨p.st,p.gen,p.root,p.next+1,p.dead⟩ S hs:=
 ⟨h.en,h.ins,λx a=>⟨(h.vol x a).1,(h.vol x a).2.1,by have:=(h.vol x a).2.2;show x.key.id<p.next+1;omega⟩,h.few,h.dead,by have:=h.next;show 0<=p.next+1/\p.next+1<_;omega,h.gen⟩
variable{n:Int}
theorem Fine.new{p:Po}{t:Sto}(h:Fine p S [])(b:wHu p.st=.ok (t,n)):∃S',Fine (ES p t) S' [n]/\n.toNat∈S':=by
 unfold wHu at b;split at b
 ·rename_i l;cases b;have g:Ku p.st 0 []=0:=by grind[YJ]
  obtain⟨S',c,f,e,d,k,j,_⟩:=En.make (lv:=0) (xs:=[]) h.en (λ_ x a=>by cases a) (by decide) (λx a=>by cases a) (λ_ x a=>by cases a) (λx a=>by cases a) g;have i:=h.move ((Kp.ext d e).oks c.ok) (hs':=[((BD p.st:Nat):Int)]) c;exact⟨S',i.1,f⟩
 grind
theorem Fine.create{p r:Po}(h:Fine p S [])(a:KL p=.ok r):∃S',Fine r S' []:=by
 obtain⟨R,N,b,_⟩:=h.cens;unfold KL at a;rw[b]at a;dsimp only at a;split at a
 ·cases a
 rename_i k;unfold wTd at a;split at a
 ·cases a
 rename_i t n d;obtain⟨S',c,g⟩:=h.new d;have j:=Fine.next1 (p:=ES p t) c (λe=>k (.inr e));have f:=h.next;obtain⟨o,m,_⟩:=Fine.set (p:=⟨t,p.gen,p.root,p.next+1,p.dead⟩) (v:=⟨p.next,n,false,0⟩) (hs:=[]) j g f.1 ⟨by show (0:Int)<=0;omega,by show (0:Int)<4294967296;omega⟩ a;have l:MJ ⟨t,p.gen,p.root,p.next+1,p.dead⟩ p.next=[]:=(Fine.old_none (p:=ES p t) c (i:=p.next) (Int.le_refl _));grind
theorem wWt{p q:Po}(h:G4 p i=.ok q):BQ p i=0/\q=p:=by
 grind[G4]
theorem wWs{r:Except Int Po}{q:Po}{k:Int}(h:G3 r k=.ok q):∃p t,r=.ok p/\Km p.st k=.ok t/\q=ES p t:=by
 unfold G3 at h;grind
theorem Fine.hold{p c:Po}(h:Fine p S [])(k:G3 (G4 p i) (As p i).root=.ok c):BQ p i=0/\∃t,c=ES p t/\Fine (ES p t) S [(As p i).root]/\(As p i).root.toNat∈S/\AT t p.root=AT p.st p.root:=by
 obtain⟨d,t,e,g,rfl⟩:=wWs k;obtain⟨f,rfl⟩:=wWt e;obtain⟨_,_,_,_,_,b⟩:=h.volx f;obtain⟨l,j,_⟩:=h.share g;have a:d.root∈Bc d:=by grind[B7]
 exact⟨f,t,rfl,l,(h.ins _ b).2.1,(j _ (List.mem_append_right _ a) (h.ins _ a).2.1 (h.ins _ a).2.2).2.1⟩
theorem wLo{r:Except Int Po}{q:Po}{v:Vo}(h:NU r v=.ok q):∃p,r=.ok p/\Ej p v=.ok q:=by
 unfold NU at h;grind
variable{f:Bool}
theorem Fine.snap{p r:Po}(h:Fine p S [])(k:0<=i/\i<4294967296)(a:UD p i f=.ok r):∃S',Fine r S' []:=by
 unfold UD at a;split at a
 ·cases a
 rename_i o;obtain⟨u,b,n⟩:=wLo (PI a);unfold Ve at b;split at b
 ·cases b
 rename_i s c;cases b;obtain⟨g,t,rfl,d,l,y⟩:=h.hold c;have j:=h.next;have m:=Fine.next1 (p:=ES p t) d (λe=>o ⟨g,.inr e⟩);obtain⟨B,z,_⟩:=Fine.set (p:=⟨t,p.gen,p.root,p.next+1,p.dead⟩) (v:=⟨p.next,(As p i).root,f,i⟩) (hs:=[]) m l j.1 k n;have w:MJ ⟨t,p.gen,p.root,p.next+1,p.dead⟩ p.next=[]:=(Fine.old_none (p:=ES p t) d (i:=p.next) (Int.le_refl _));grind
theorem Fine.freeze{p r:Po}(h:Fine p S [])(y:0<=i/\i<4294967296)(a:wSv p i f=.ok r):∃S',Fine r S' []:=by
 unfold wSv at a;have a:=PI a;unfold wEj at a;split at a
 ·cases a
 rename_i k z;obtain⟨J,G,F⟩:=wLo z;obtain⟨c,t,rfl,g,C,B⟩:=h.hold G;obtain⟨x,K,H,L,hold,o⟩:=h.volx c;obtain⟨j,D,_,s,_⟩:=Fine.set (p:=ES p t) (v:=⟨(As p i).id,(As p i).root,f,(As p i).frm⟩) (hs:=[]) g C (by rw[GL c];exact y.1) (by rw[H];exact G5 _ _ _) F;have b:MJ (ES p t) (As p i).id=[(As p i).root]:=by
  rw[<-hold,GL c];unfold MJ;show KP ((AT t p.root).filter _)=_;rw[B]
 have e:Fine k j (MJ (ES p t) (As p i).id++[]):=D;rw[b]at e;have u:(As p i).root∈Bc (ES p t):=by
  simp_all [B7,KP,AT]
 obtain⟨_,n,d⟩:=g.ins _ u;obtain⟨m,_,l⟩:=s (As p i).root (by simp) n d;obtain⟨I,w,E⟩:=e.leave l (by rw[m];exact d);rw[w]at a;cases a;exact⟨j,E⟩
variable{l:List It}
theorem wJh{q:Ky}(k:Int):(KP (l.filter (Ec q))).count k+(KP (l.filter (Gk q))).count k=(KP l).count k:=by
 have h:(l.filter (Ec q)++l.filter (Gk q)).Perm l:=by
  have e:l.filter (Gk q)=l.filter λy=> !Ec q y:=List.filter_congr λy _=>by unfold Gk Ec;by_cases h:y.key=q<;>simp[h]
  rw[e];exact List.filter_append_perm _ _
 grind
theorem Fine.delete{p r:Po}(h:Fine p S [])(d:UR p i=.ok r):∃S',Fine r S' []:=by
 unfold UR at d;split at d
 ·rename_i C;split at d
  ·cases d
  rename_i V;obtain⟨x,J,O,W,hold,K⟩:=h.volx C;unfold rdeN at d;split at d
  ·cases d
  rename_i R j;cases d;unfold Ut at j;rw[iP C]at j;split at j
  ·cases j
  rename_i t n a;cases j;have f:p.root∈Bc p:=by rw[B7];simp
  obtain⟨_,w,o⟩:=h.ins _ f;cases s:NG p.st p.root (wDo i)with
  |none=>rw[TR o s]at a;cases a
  |some y=>
   have z:En p.st S (p.root::(p.dead++KP (AT p.st p.root))):=by have:=h.en;rw[B7]at this;exact this
   obtain⟨e,L,_⟩|⟨Q,T,S',N,P⟩:=Z1 o s z w
   ·rw [L]at a;cases a
   rw[N]at a;cases a
   have c:AT t n=(AT p.st p.root).filter (Ec (wDo i)):=P.all
   have m:Bc ⟨t,p.gen,n,p.next,p.dead++[(As p i).root]⟩=(n::(p.dead++[(As p i).root]))++KP ((AT p.st p.root).filter (Ec (wDo i))):=by rw[B7];show (n::_)++KP (AT t n)=_;rw[c]
   refine⟨S',P.en.less λk U=>?_,λr b=>?_,λy u=>?_,?_,?_,h.next,h.gen⟩
   ·have E:=wJh (l:=AT p.st p.root) (q:=wDo i) k
    have M:KP ((AT p.st p.root).filter (Gk (wDo i)))=[(As p i).root]:=hold
    rw[M]at E
    rw[m]
    simp only[List.count_cons,List.count_append,List.cons_append,List.nil_append,List.count_nil]at E⊢
    omega
   ·rw [m,List.cons_append]at b
    rcases List.mem_cons.1 b with rfl|b
    ·exact ⟨P.rng,P.inS,P.chk⟩
    have D:r∈p.dead++KP (AT p.st p.root):=by
     rcases mA b with b|b
     ·rcases mA b with b|b
      ·simp [b]
      rw[mS b];exact List.mem_append_right _ (List.mem_map.2 ⟨x,J,by rw[O]⟩)
     obtain⟨y,u,e⟩:=List.mem_map.1 b
     exact List.mem_append_right _ (List.mem_map.2 ⟨y,(List.mem_filter.1 u).1,e⟩)
    obtain⟨I,H,B⟩:=h.ins r (by rw[B7];simp only[List.cons_append];exact List.mem_cons_of_mem _ D)
    obtain⟨G,_,F⟩:=P.other r D H B
    exact⟨I,F,by show (AN t r).2=0;rw[G];exact B⟩
   ·have g:y∈AT t n:=u
    rw[c]at g;exact h.vol y (List.mem_filter.1 g).1
   ·show (AT t n).length<=16
    rw[c];exact Nat.le_trans (List.length_filter_le _ _) h.few
   show (p.dead++[(As p i).root]).length<=40
   rw[List.length_append];show _+1<=40;omega
 cases d
end Go.Proofs.YtjheijhahehnmaaGreatDoor
