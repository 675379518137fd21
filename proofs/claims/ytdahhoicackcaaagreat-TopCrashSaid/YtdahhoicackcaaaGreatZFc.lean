/- Plain laws: each step of a pool keeps its counts just so. No statement of the seat is proved here. -/
import Derived.Test.YtdahhoicackcaaaGreatZHn
import Derived.Test.YtdahhoicackcaaaGreatZJump
import Derived.Test.YtdahhoicackcaaaGreatZRing
import Derived.Test.YtdahhoicackcaaaGreatZDelf
import Derived.Test.YtdahhoicackcaaaGreatZPutf
import Derived.Test.YtdahhoicackcaaaGreatZMlaw
import Derived.Test.YtdahhoicackcaaaGreatZDelg
namespace Go.Proofs.YtdahhoicackcaaaGreat
open Go.Proofs.Tryz
open List (range length map_append sum_append map_cons map_nil sum_cons sum_nil map_congr_left getD length_cons length_append count_append sum mem_append_right filter_cons cons_append count_cons nil_append)
set_option linter.unusedSimpArgs false
set_option linter.unusedVariables false
set_option linter.unusedSectionVars false
open Go.RowKit
set_option maxRecDepth 8000
set_option maxHeartbeats 40000000
def wLr(p:Po):Prop:=∀j,8<=j->j<256->(BK p).getD j 0=((p.st.now.getD j 0).toNat:Int)
def RF(p:Po):Bool:=decide (Ax p=0)&&(range 256).all λj=>decide (j<8)||decide ((BK p).getD j 0=((p.st.now.getD j 0).toNat:Int))
theorem cntB_iff{p:Po}:RF p=true↔Ax p=0/\wLr p:=by
 unfold RF wLr
 rw[Bool.and_eq_true,decide_eq_true_eq,List.all_eq_true]
 refine and_congr_right λ_=>⟨λh j d c=>?_,λh j b=>?_⟩
 ·have:=h j (List.mem_range.2 c)
  rw[Bool.or_eq_true,decide_eq_true_eq,decide_eq_true_eq]at this
  rcases this with a|a
  ·omega
  exact a
 rw[Bool.or_eq_true,decide_eq_true_eq,decide_eq_true_eq]
 rcases Nat.lt_or_ge j 8 with a|a
 ·exact .inl a
 exact .inr (h j a (List.mem_range.1 b))
theorem Y1(p:Po)(x:V5)(M:Mem)(h:PT5 M x p)(hd:p.dead.length<=1000000)(o:Ax p=0):
  SpecL prog 13 #[.agg (AO x p.gen p.root p.next).toArray,.slice none 0 0] M [] λu M' L'=>u=.tuple #[.bool (RF p),.int .i64 (Ax p)]/\L'=[]:=by
 obtain⟨I,F,⟨na,nn,J⟩,G,H⟩:=x
 obtain⟨_,_,T,P,g⟩:=id h.n
 cases T
 try dsimp only at P g
 show SpecL _ _ #[.agg (FW I.v F.v (.slice na p.st.now.length J) G.v p.gen p.root p.next H.v).toArray,.slice none 0 0] M [] _
 have Q:p.st.now.length=256:=(Hf o).2.1.1
 obtain⟨Y,X,U,O⟩:=g.open (by intro e;have:=congrArg length e;rw[Af,List.length_nil]at this;omega)
 subst U
 have R:=JK p _ M h hd
 refine sB func13 ntmps13 ?_;intro W
 refine ga λE=>?_
 refine Vs (α:=Mem×Sl×Nat) 0 (λz=>[(2,pB E),(6,z.2.1.v),(10,.int .i64 (z.2.2:Int))]) (λz=>z.1) (λ_=>[(E,cE (FW I.v F.v (.slice (some ⟨Y,X,none⟩) p.st.now.length J) G.v p.gen p.root p.next H.v) 36)]) (λz=>MLe M z.1/\SM z.1 z.2.1.a (Al (BK p))/\z.2.1.n=(BK p).length/\(BK p).length=256/\8<=z.2.2/\z.2.2<=256/\∀j,8<=j->j<z.2.2->(BK p).getD j 0=((p.st.now.getD j 0).toNat:Int)) (λz=>256-z.2.2) 1000 rfl ?_ (λhp=>?_)
 ·rintro ⟨m,⟨B,V,y⟩,k⟩ b0 ⟨f,b,d,c,i,Z,C⟩ r
  replace d:V=_:=d
  replace Z:k<=256:=Z
  replace i:8<=k:=i
  replace C:∀j,8<=j->j<k->(BK p).getD j 0=((p.st.now.getD j 0).toNat:Int):=C
  replace r:256-k<=b0:=r
  replace f:MLe M m:=f
  replace b:SM m B _:=b
  subst d
  obtain⟨rb,ro,U,K⟩:=b.open (by intro e;have:=congrArg length e;rw[Ay,List.length_nil]at this;omega)
  subst U
  dsimp only[Sl.v]
  refine gj (λS=>?_) λS=>?_
  ·refine gh ?_
   refine jJ (λ_ h=>by cases h) ?_
   refine gr ?_
   exact⟨by rw[o,show RF p=true from cntB_iff.2 ⟨o,λj D s=>C j D (by omega)⟩],rfl⟩
  refine gh ?_
  refine JG [0,1,2,3,4,5,6,7,8,9,10,11] ?_
  refine gh ?_
  refine dq rfl (AE rfl rfl rfl rfl ((K _ _ (by rw[Nat.mul_one];exact iget (j:=(k:Int).toNat) (by omega))).cj _)) ?_
  refine gh ?_
  refine dq rfl (AE rfl rfl rfl rfl (((O _ _ (by rw[Nat.mul_one];exact Cc (j:=(k:Int).toNat) (by omega))).mono f).cj _)) ?_
  refine dq rfl (B7 rfl rfl rfl (by have:=(p.st.now.getD (k:Int).toNat 0).toNat_lt;omega)) ?_
  refine gj (λl=>?_) λl=>?_
  ·refine gh ?_
   refine jJ (λ_ h=>by cases h) ?_
   refine gr ?_
   exact⟨by rw[o,show RF p=false from Bool.eq_false_iff.2 λh=>l (by have:=(cntB_iff.1 h).2 k i (by omega);rwa[Int.toNat_natCast])],rfl⟩
  refine gh ?_
  refine wJj ?_
  refine wNa (m,⟨some ⟨rb,ro,none⟩,(BK p).length,y⟩,k+1) (Keep.cons (t:=2) rfl (Keep.cons (t:=6) rfl (Keep.cons (t:=10) rfl Keep.nil))) ⟨f,b,rfl,c,by show 8<=k+1;omega,by show k+1<=256;omega,λj D s=>?_⟩ (by show 256-(k+1)<b0;omega) (λ_ h=>h)
  replace s:j<k+1:=s
  rcases Nat.lt_or_ge j k with h3|h3
  ·exact C j D h3
  obtain rfl:j=k:=by omega
  have h4:=Classical.not_not.1 l;rwa[Int.toNat_natCast]at h4
 refine gc R ?_;rintro _ m f ⟨⟨B,V,y⟩,rfl,d,N,b,L⟩
 try dsimp only at d N b
 subst d
 have c:=L o
 refine gt ?_
 refine Cz (α:=Unit) (λ_=>[(2,pB E),(6,.slice B (BK p).length y),(22,.slice none 0 0),(23,.int .i64 0),(24,.int .i64 0)]) (λ_=>m) (λ_=>[(E,cE (FW I.v F.v (.slice (some ⟨Y,X,none⟩) p.st.now.length J) G.v p.gen p.root p.next H.v) 36)]) (λ_=>True) (λ_=>0) () trivial ?_
 rintro _ _
 refine gt ?_
 refine Pa ?_
 refine jT ?_
 exact wJi (Keep.cons (t:=2) rfl (Keep.cons (t:=6) rfl (Keep.cons (t:=10) rfl Keep.nil))) (BU (λ_ h=>h) (hp (m,⟨B,(BK p).length,y⟩,8) ⟨f,b,rfl,c,Nat.le_refl _,by show 8<=256;omega,λj D s=>absurd s (by show ¬j<8;omega)⟩ (by show 256-8<=1000;omega)))
theorem Y3(p:Po)(x:V5)(M:Mem)(h:PT5 M x p)(a:p.dead.length<=1000000)(b:¬Ax p=0):
  SpecL prog 13 #[.agg (AO x p.gen p.root p.next).toArray,.slice none 0 0] M [] λu g d=>u=.tuple #[.bool (RF p),.int .i64 (Ax p)]/\d=[]:=by
 refine sB func13 ntmps13 ?_;intro W
 refine ga λe=>?_
 refine N6 ?_
 refine gc (JK p x M h a) ?_;rintro _ f c ⟨s,rfl,_⟩
 refine gt ?_
 refine jN (λ_ h=>by cases h) ?_
 refine gr ?_
 exact⟨by rw[show RF p=false from Bool.eq_false_iff.2 λh=>b (cntB_iff.1 h).1];rfl,rfl⟩
theorem LX(p:Po)(x:V5)(M:Mem)(h:PT5 M x p)(a:p.dead.length<=1000000):SpecL prog 13 #[.agg (AO x p.gen p.root p.next).toArray,.slice none 0 0] M [] λu d c=>u=.tuple #[.bool (RF p),.int .i64 (Ax p)]/\c=[]:=by
 by_cases b:Ax p=0
 ·exact Y1 p x M h a b
 exact Y3 p x M h a b
set_option maxRecDepth 8000
inductive Rcs (s:Sto) (rs:List Int):Nat->Prop
 |root {r:Int} (h:r∈rs):Rcs s rs r.toNat
 |kid {n:Nat} {lv:Int} {ys:List It} {x:It} (h:Rcs s rs n) (hnd:Ai s n=some (lv,ys)) (hl:0<lv) (hx:x∈ys):Rcs s rs x.ref.toNat
variable{n:Nat}{rs:List Int}{s:Sto}
theorem Rcs.mono{a:List Int}(h:∀r∈rs,r∈a)(f:Rcs s rs n):Rcs s a n:=by
 induction f with
 |root e=>exact .root (h _ e)
 |kid _ b g d c=>exact .kid c b g d
def Gp(xs:List It)(k:Nat):Int:=((xs.filter λx=>decide (x.ref=(k:Int)/\x.ref≠0)).length:Int)
def cnt(s:Sto)(n k:Nat):Int:=match Ai s n with|some (_,xs)=>Gp xs k|none=>0
def sg(s:Sto)(p:List Int)(k:Nat):Int:=((range 256).map λn=>if 0<p.getD n 0 then cnt s n k else 0).sum
theorem wKf(xs:List It)(k:Nat):0<=Gp xs k/\Gp xs k<=xs.length:=by
 unfold Gp
 have:=List.length_filter_le (λx:It=>decide (x.ref=(k:Int)/\x.ref≠0)) xs
 omega
theorem wNr(s:Sto)(n k:Nat):0<=cnt s n k/\cnt s n k<=5:=by
 unfold cnt
 split
 ·rename_i a xs h
  have:=(Ar h).len
  have:=wKf xs k
  omega
 omega
variable{b:Int}{f:Nat->Int}
theorem QR(h:∀n,0<=f n/\f n<=b):∀m:Nat,0<=((range m).map f).sum/\((range m).map f).sum<=m*b
 |0=>by simp
 |m+1=>by
  rw[List.range_succ,map_append,sum_append]
  have d:=QR h m
  have c:=h m
  simp only[map_cons,map_nil,sum_cons,sum_nil]
  have a:((m+1:Nat):Int)*b=(m:Int)*b+b:=by push_cast;rw[Int.add_mul,Int.one_mul]
  omega
theorem Ws{g:Nat->Int}(h:∀j,j≠n->f j=g j):∀m:Nat,((range m).map f).sum=((range m).map g).sum+if n<m then f n-g n else 0
 |0=>by simp
 |m+1=>by
  rw[List.range_succ,map_append,sum_append,map_append,sum_append,Ws h m]
  simp only[map_cons,map_nil,sum_cons,sum_nil]
  by_cases e:m=n
  ·subst e;rw[if_neg (Nat.lt_irrefl _),if_pos (Nat.lt_succ_self _)];omega
  rw[h m e]
  by_cases a:n<m
  ·rw [if_pos a,if_pos (by omega)];omega
  rw[if_neg a,if_neg (by omega)];omega
theorem sg_le(s:Sto)(p:List Int)(k:Nat):0<=sg s p k/\sg s p k<=1280:=by
 have:=QR (f:=λn=>if 0<p.getD n 0 then cnt s n k else 0) (b:=5) (λn=>by have:=wNr s n k;split<;>omega) 256
 unfold sg;omega
theorem wMj{p q:List Int}(a:n<256)(d:¬0<p.getD n 0)(c:0<q.getD n 0)(h:∀j,j≠n->q.getD j 0=p.getD j 0)(k:Nat):sg s q k=sg s p k+cnt s n k:=by
 unfold sg
 rw[Ws (f:=λn=>if 0<q.getD n 0 then cnt s n k else 0) (g:=λn=>if 0<p.getD n 0 then cnt s n k else 0) (n:=n) (λj b=>by rw[h j b]) 256,if_pos a,if_pos c,if_neg d];omega
theorem wGo{p q:List Int}(h:∀n,n<256->(0<q.getD n 0↔0<p.getD n 0))(k:Nat):sg s q k=sg s p k:=by
 unfold sg
 congr 1
 refine map_congr_left λn b=>?_
 have:=h n (List.mem_range.1 b)
 by_cases a:0<p.getD n 0
 ·rw [if_pos a,if_pos (this.2 a)]
 rw[if_neg a,if_neg (λc=>a (this.1 c))]
structure Fin(s:Sto)(rs:List Int)(R N:List Int):Prop where
 eq:∀k,k<256->R.getD k 0=(rs.count (k:Int):Int)+sg s N k
 on:∀n,0<N.getD n 0↔Rcs s rs n
structure Frj(s:Sto)(rs st R N:List Int):Prop where
 len:R.length=256
 eq:∀k,k<256->R.getD k 0=(rs.count (k:Int):Int)+sg s N k
 pd:∀k∈st,(8<=k/\k<256)/\Rcs s rs k.toNat/\∃(l:Nat)(ys:List It),Ai s k.toNat=some ((l:Int),ys)/\AV s l ys
 me:∀n,0<N.getD n 0->Rcs s rs n
 cl:∀n,0<N.getD n 0->∀lv ys,Ai s n=some (lv,ys)->0<lv->∀y∈ys,0<N.getD y.ref.toNat 0\/y.ref∈st
 rt:∀r∈rs,0<N.getD r.toNat 0\/r∈st
variable{N R:List Int}
theorem Frj.fin(h:Frj s rs [] R N):Fin s rs R N:=by
 refine⟨h.eq,λn=>⟨h.me n,λe=>?_⟩⟩
 induction e with
 |root d=>exact(h.rt _ d).resolve_right (by simp)
 |kid _ a f c b=>exact(h.cl _ b _ _ a f _ c).resolve_right (by simp)
variable{k:Nat}
theorem wNd{r:List Int}(hk:k<r.length)(a:0<=r.getD k 0/\r.getD k 0<=4000000000000000000)(j:Nat):(inc r k).getD j 0=if j=k then r.getD k 0+1 else r.getD j 0:=by
 unfold inc
 rw[show IntKind.i64.wrap (r.getD k 0+1)=r.getD k 0+1 from IntWalk.i64_in _ (by omega)]
 by_cases e:j=k
 ·subst e;rw[if_pos rfl];simp[getD,hk]
 rw[if_neg e];simp[getD,List.getElem?_set_ne (λh=>e h.symm)]
structure FoS(lv:Int)(xs:List It)(R st R' st':List Int):Prop where
 len:R'.length=R.length
 eq:∀k,k<256->R'.getD k 0=R.getD k 0+Gp xs k
 sub:∀z∈st,z∈st'
 all:0<lv->∀y∈xs,y.ref≠0->y.ref∈st'
 back:∀z∈st',z∈st\/(0<lv/\∃y∈xs,z=y.ref)
 few:st'.length<=st.length+xs.length
theorem Ry{lv:Int}:∀{xs:List It}{R st:List Int},R.length=256->(∀y∈xs,y.ref=0\/8<=y.ref/\y.ref<256)->(∀k,0<=R.getD k 0/\R.getD k 0+xs.length<=4000000000000000000)->FoS lv xs R st (xs.foldl (Ce lv) (R,st)).1 (xs.foldl (Ce lv) (R,st)).2
 |[],R,st,_,_,_=>{ len:=rfl,eq:=λk _=>by show R.getD k 0=R.getD k 0+Gp [] k;simp[Gp],sub:=λ_ h=>h,all:=λ_ y h=>absurd h (List.not_mem_nil),back:=λ_ h=>Or.inl h,few:=Nat.le_refl _ }
 |x::xs,R,st,hR,hx,hb=>by
  rw[List.foldl_cons]
  have hb':=λk=>hb k
  simp only[length_cons]at hb'
  by_cases h0:x.ref=0
  ·have e:Ce lv (R,st) x=(R,st):=by unfold Ce;rw[if_pos h0]
   rw[e]
   have ih:=Ry (lv:=lv) (xs:=xs) (R:=R) (st:=st) hR (λy hy=>hx y (by simp[hy])) (λk=>by have:=hb' k;omega)
   refine⟨ih.len,λk hk=>?_,ih.sub,λhl y hy hn=>?_,λz hz=>?_,by have:=ih.few;simp only[length_cons];omega⟩
   ·rw [ih.eq k hk]
    have:Gp (x::xs) k=Gp xs k:=by unfold Gp;rw[List.filter_cons_of_neg (by simp[h0])]
    rw[this]
   ·rcases List.mem_cons.1 hy with rfl|hy
    ·exact absurd h0 hn
    exact ih.all hl y hy hn
   rcases ih.back z hz with h|⟨h1,y,h2,h3⟩
   ·exact .inl h
   exact .inr ⟨h1,y,by simp[h2],h3⟩
  have hr:=(hx x (by simp)).resolve_left h0
  have hbr:=hb' x.ref.toNat
  have hi:=λj=>wNd (r:=R) (k:=x.ref.toNat) (by omega) (by omega) j
  obtain⟨st1,hst1⟩:∃st1,st1=(if 0<lv then st++[x.ref]else st):=⟨_,rfl⟩
  have e:Ce lv (R,st) x=(inc R x.ref.toNat,st1):=by unfold Ce;rw[if_neg h0,hst1]
  rw[e]
  have ih:=Ry (lv:=lv) (xs:=xs) (R:=inc R x.ref.toNat) (st:=st1) (by rw[Dg];exact hR) (λy hy=>hx y (by simp[hy])) (λk=>by rw[hi k];have:=hb' k;split<;>rename_i e<;>(try subst e)<;>omega)
  have hs1:∀z∈st,z∈st1:=λz hz=>by rw[hst1];split<;>simp[hz]
  refine⟨by rw[ih.len,Dg],λk hk=>?_,λz hz=>ih.sub z (hs1 z hz),λhl y hy hn=>?_,λz hz=>?_,?_⟩
  ·rw [ih.eq k hk,hi k]
   by_cases e2:k=x.ref.toNat
   ·rw [if_pos e2]
    have:Gp (x::xs) k=Gp xs k+1:=by unfold Gp;rw[List.filter_cons_of_pos (by simp[h0];omega),length_cons];omega
    rw[this,e2];omega
   rw[if_neg e2]
   have:Gp (x::xs) k=Gp xs k:=by unfold Gp;rw[List.filter_cons_of_neg (by simp;omega)]
   rw[this]
  ·rcases List.mem_cons.1 hy with rfl|hy
   ·exact ih.sub _ (by rw[hst1,if_pos hl];simp)
   exact ih.all hl y hy hn
  ·rcases ih.back z hz with h|⟨h1,y,h2,h3⟩
   ·rw [hst1]at h
    split at h
    ·rename_i hl
     rcases List.mem_append.1 h with h|h
     ·exact .inl h
     exact .inr ⟨hl,x,by simp,List.mem_singleton.1 h⟩
    exact .inl h
   exact .inr ⟨h1,y,by simp[h2],h3⟩
  have:=ih.few
  have h2:st1.length<=st.length+1:=by rw[hst1];split<;>simp
  simp only[length_cons];omega
theorem Frj.bd{st:List Int}(h:Frj s rs st R N)(c:rs.length<=100000)(k:Nat):0<=R.getD k 0/\R.getD k 0+5<=4000000000000000000:=by
 rcases Nat.lt_or_ge k 256 with b|b
 ·rw [h.eq k b]
  have f:=sg_le s N k
  have d:=List.count_le_length (a:=(k:Int)) (l:=rs)
  omega
 have e:R.getD k 0=0:=by rw[getD,List.getElem?_eq_none (by have:=h.len;omega)];rfl
 rw[e];omega
theorem KN(D:rs.length<=100000):∀(f:Nat){st R N:List Int}{g:Nat},Frj s rs st R N->Few (g+f) N->st.length+6*Ui N<=f->Frj s rs [] (BJ s f st R N).1 (BJ s f st R N).2/\Few g (BJ s f st R N).2
 |0,st,R,N,g,h,C,W=>by
  have:st=[]:=List.eq_nil_of_length_eq_zero (by omega)
  subst this
  exact⟨h,C⟩
 |f+1,st,R,N,g,h,C,W=>by
  rcases List.eq_nil_or_concat st with rfl|⟨st0,k,rfl⟩
  ·rw [PY];exact⟨h,C.less (by omega)⟩
  rw[List.concat_eq_append]at *
  obtain⟨hk,Y,l,xs,o,O⟩:=h.pd k (by simp)
  have I:=Few.inc (f:=g+f) (nodes:=N) C (k:=k.toNat) (by omega)
  have ac:=C.2 k.toNat
  have E:=λj=>wNd (r:=N) (k:=k.toNat) (by rw[C.1];omega) (by omega) j
  rw[length_append,List.length_singleton]at W
  by_cases U:1<(inc N k.toNat).getD k.toNat 0
  ·rw [LB U]
   have a:∀j,0<(inc N k.toNat).getD j 0↔0<N.getD j 0:=λj=>by
    rw[E j]
    have b:=E k.toNat
    rw[if_pos rfl]at b
    rw[b]at U
    split
    ·rename_i e;subst e;exact⟨λ_=>by omega,λ_=>by omega⟩
    exact Iff.rfl
   have B:0<N.getD k.toNat 0:=by
    have b:=E k.toNat
    rw[if_pos rfl]at b
    omega
   have G:Ui (inc N k.toNat)=Ui N:=by
    have b:=JW (nodes:=N) (k:=k.toNat) (v:=IntKind.i64.wrap (N.getD k.toNat 0+1)) (by rw[C.1];omega)
    rw[IntWalk.i64_in _ (by omega),if_neg (by omega),if_neg (by omega)]at b
    unfold inc;rw[IntWalk.i64_in _ (by omega)];omega
   refine KN D f ⟨h.len,λj L=>by rw[h.eq j L,wGo (λn _=>a n)],λz G=>h.pd z (by simp[G]),λn t=>h.me n ((a n).1 t),λn t lv ys K J y u=>?_,λr P=>?_⟩ I.1 (by omega)
   ·rcases h.cl n ((a n).1 t) lv ys K J y u with b|b
    ·exact .inl ((a _).2 b)
    rcases List.mem_append.1 b with b|b
    ·exact .inr b
    rw[List.mem_singleton.1 b];exact .inl ((a _).2 B)
   rcases h.rt r P with b|b
   ·exact .inl ((a _).2 b)
   rcases List.mem_append.1 b with b|b
   ·exact .inr b
   rw[List.mem_singleton.1 b];exact .inl ((a _).2 B)
  rw[Nh U o]
  have m:=Ar o
  have b:=E k.toNat
  rw[if_pos rfl]at b
  have Q:N.getD k.toNat 0=0:=by omega
  have d:=Ry (lv:=(l:Int)) (xs:=xs) (R:=R) (st:=st0) h.len m.ref (λj=>by have:=h.bd D j;have:=m.len;omega)
  obtain⟨Z,V⟩:∃Z,Z=(xs.foldl (Ce (l:Int)) (R,st0)).1:=⟨_,rfl⟩
  obtain⟨F,H⟩:∃F,F=(xs.foldl (Ce (l:Int)) (R,st0)).2:=⟨_,rfl⟩
  rw[<-V,<-H]at d⊢
  have a:∀j,0<(inc N k.toNat).getD j 0↔j=k.toNat\/0<N.getD j 0:=λj=>by
   rw[E j]
   split
   ·rename_i e;exact⟨λ_=>.inl e,λ_=>by omega⟩
   rename_i e;exact⟨.inr,λh=>h.resolve_left e⟩
  have G:Ui (inc N k.toNat)+1=Ui N:=by
   have c:=JW (nodes:=N) (k:=k.toNat) (v:=IntKind.i64.wrap (N.getD k.toNat 0+1)) (by rw[C.1];omega)
   rw[IntWalk.i64_in _ (by omega),if_pos Q,if_neg (by omega)]at c
   unfold inc;rw[IntWalk.i64_in _ (by omega)];omega
  have aa:=m.len
  have ab:=d.few
  refine KN D f ⟨by rw[d.len];exact h.len,λj L=>?_,λz G=>?_,λn t=>?_,λn t lv ys K J y u=>?_,λr P=>?_⟩ I.1 (by omega)
  ·rw [d.eq j L,h.eq j L,wMj (p:=N) (q:=inc N k.toNat) (n:=k.toNat) (by omega) (by omega) (by omega) (λi S=>by rw[E i,if_neg S]) j]
   have T:cnt s k.toNat j=Gp xs j:=by unfold cnt;rw[o]
   rw[T];omega
  ·rcases d.back z G with c|⟨X,y,u,rfl⟩
   ·exact h.pd z (by simp[c])
   obtain⟨M,rfl⟩:∃M,l=M+1:=⟨l-1,by omega⟩
   obtain⟨zs,h5,_,h6⟩:=BA O u
   have:=m.up X y u
   have:=m.ref y u
   exact⟨by omega,.kid Y o X u,M,zs,h5,h6⟩
  ·rcases (a n).1 t with rfl|t
   ·exact Y
   exact h.me n t
  ·rcases (a n).1 t with rfl|t
   ·rw [o]at K;cases K
    exact .inr (d.all J y u (m.up J y u))
   rcases h.cl n t lv ys K J y u with c|c
   ·exact .inl ((a _).2 (.inr c))
   rcases List.mem_append.1 c with c|c
   ·exact .inr (d.sub _ c)
   rw[List.mem_singleton.1 c];exact .inl ((a _).2 (.inl rfl))
  rcases h.rt r P with c|c
  ·exact .inl ((a _).2 (.inr c))
  rcases List.mem_append.1 c with c|c
  ·exact .inr (d.sub _ c)
  rw[List.mem_singleton.1 c];exact .inl ((a _).2 (.inl rfl))
variable{r:Int}
theorem wGq(h:DQ s r=true):(8<=r/\r<256)/\∃(l:Nat)(ys:List It),Ai s r.toNat=some ((l:Int),ys)/\AV s l ys:=by
 obtain⟨g,f,d,xs,_,c,b⟩:=Kc h
 have a:=(Ar c).lev
 refine⟨⟨g,f⟩,d.toNat,xs,by rw[c,Int.toNat_of_nonneg a.1],λe=>?_⟩
 unfold BR at b;rw[if_neg e]at b;exact b
theorem wMd(N:List Int):Ui N<=N.length:=List.countP_le_length
theorem Frj.more(h:Frj s rs [] R N)(g:DQ s r=true)(b:rs.length<=100000):Frj s (rs++[r]) [r] (inc R r.toNat) N:=by
 obtain⟨f,l,ys,d,c⟩:=wGq g
 have D:=h.bd b r.toNat
 have u:=λj=>wNd (r:=R) (k:=r.toNat) (by rw[h.len];omega) (by omega) j
 refine⟨by rw[Dg];exact h.len,λk m=>?_,λz a=>?_,λn i=>(h.me n i).mono (λr g=>by simp[g]),λn i o ys C B y t=>.inl ((h.cl n i o ys C B y t).resolve_right (by simp)),λz a=>?_⟩
 ·rw [u k,count_append,List.count_singleton]
  by_cases e:k=r.toNat
  ·rw [if_pos e,if_pos (by simp;omega),<-e,h.eq k m];push_cast;omega
  rw[if_neg e,if_neg (by simp;omega),h.eq k m];simp
 ·rw [List.mem_singleton.1 a];exact⟨f,.root (by simp),l,ys,d,c⟩
 rcases List.mem_append.1 a with a|a
 ·exact .inl ((h.rt z a).resolve_right (by simp))
 exact .inr a
theorem Ng:∀{a rs1 R N R' b:List Int}{g:Nat},Frj s rs1 [] R N->Few (g+1600*a.length) N->(rs1++a).length<=100000->B3 s a R N=some (R',b)->Frj s (rs1++a) [] R' b
 |[],rs1,R,N,R',b,g,h,c,d,e=>by
  rw[B3]at e;cases e;rw[List.append_nil];exact h
 |r::a,rs1,R,N,R',b,g,h,c,d,e=>by
  rw[B3]at e
  split at e
  ·rename_i i
   rw[length_append,length_cons]at d
   have f:=KN (s:=s) (rs:=rs1++[r]) (by rw[length_append,List.length_singleton];omega) F0 (g:=g+1600*a.length) (h.more i (by omega)) (c.less (by rw[length_cons];unfold F0;omega)) (by
    have:=wMd N;rw[c.1]at this;rw[List.length_singleton];unfold F0;omega)
   have j:=Ng (rs1:=rs1++[r]) f.1 f.2 (by simp;omega) e
   rwa[List.append_assoc,List.singleton_append]at j
  cases e
theorem Frj.start(s:Sto):Frj s [] [] zI zI:=by
 have a:∀k,zI.getD k 0=0:=λk=>by unfold zI;rw[getD,List.getElem?_replicate];split<;>rfl
 refine⟨Ji,λk e=>?_,λz a=>(by cases a),λn c=>?_,λn c=>?_,λr d=>(by cases d)⟩
 ·rw [a]
  have:sg s zI k=0:=by
   unfold sg
   have:=QR (f:=λn=>if 0<zI.getD n 0 then cnt s n k else 0) (b:=0) (λn=>by rw[a,if_neg (by omega)];omega) 256
   omega
  rw[this];simp
 ·rw [a]at c;omega
 rw[a]at c;omega
theorem XG(a:rs.length<=600)(h:B3 s rs zI zI=some (R,N)):Fin s rs R N:=
 (Ng (rs1:=[]) (g:=0) (Frj.start s) (Zm _ (by omega)) (by simp;omega) h).fin
set_option maxRecDepth 8000
def Bj(p:Po):Sto:=⟨p.st.blocks,[],[],[]⟩
structure BeH(p:Po)(x:Su):Prop where
 mem:x∈BD (Bj p) 4
 ok:TryOk (Bj p) x
 dk:dkOk (Bj p).blocks (Bj p).waits
 max:∀z∈BD (Bj p) 4,z.gen<=x.gen
 tab:Cv (Bj p) x.gen=p.st.last
 wts:∀w∈p.st.waits,8<=w.1/\w.1<256/\p.st.last.getD w.1.toNat 0=0
set_option maxRecDepth 8000
variable{s:Sto}
theorem Eqv.down{t:Sto}(h:Eqv s t)(q:Ky):∀l,Bh s q l=Bh t q l
 |0=>rfl
 |l+1=>by funext xs;simp only[Bh,h.kid,h.down q l]
theorem Eqv.rng{t:Sto}(h:Eqv s t)(c:Int)(a b:Ky):rng s c a b=Go.Proofs.YtdahhoicackcaaaGreat.rng t c a b:=by unfold Go.Proofs.YtdahhoicackcaaaGreat.rng;simp only[h.nd,h.down]
set_option maxRecDepth 8000
def QK(p:Po):List Vo:=(allT p.st p.root).map CA
def AX(p:Po):List Int:=DW p.root p.dead (QK p)
structure Fine(p:Po)(S:List Nat)(hs:List Int):Prop where
 en:En p.st S (hs++AX p)
 ins:∀r∈AX p,(8<=r/\r<256)/\r.toNat∈S/\(fchk p.st r).2=0
 vol:∀x∈allT p.st p.root,Dj x/\x.key.id≠0/\x.key.id<p.next
 few:(allT p.st p.root).length<=16
 dead:p.dead.length<=40
 next:0<=p.next/\p.next<4294967296
 gen:0<=p.gen
variable{r:Int}{s:Sto}
theorem FV(h:(fchk s r).2=0):Aq s/\(8<=r/\r<256)/\¬s.now.getD r.toNat 0=0/\∃(l:Nat)(xs:List It),Ai s r.toNat=some ((l:Int),xs)/\AV s l xs/\fchk s r=((l:Int)+1,0):=by
 by_cases a:Aq s
 ·by_cases d:r<8\/256<=r
  ·unfold fchk at h;rw[if_pos a,if_pos d]at h;cases h
  by_cases c:s.now.getD r.toNat 0=0
  ·unfold fchk at h;rw[if_pos a,if_neg d,if_pos c]at h;cases h
  cases g:Ai s r.toNat with
  |none=>unfold fchk at h;rw[if_pos a,if_neg d,if_neg c,g]at h;cases h
  |some q=>
   obtain⟨b,xs⟩:=q
   have i:=(Ar g).lev
   have e:fchk s r=if AV s b.toNat xs then (b+1,0)else (0,8):=by unfold fchk;rw[if_pos a,if_neg d,if_neg c,g]
   by_cases f:AV s b.toNat xs
   ·exact ⟨a,by omega,c,b.toNat,xs,by rw[Int.toNat_of_nonneg i.1],f,by rw[e,if_pos f,Int.toNat_of_nonneg i.1]⟩
   rw[e,if_neg f]at h;cases h
 unfold fchk at h;rw[if_neg a]at h;cases h
theorem wEm(h:(fchk s r).2=0):DQ s r=true:=by
 obtain⟨_,c,_,l,xs,d,b,_⟩:=FV h
 unfold DQ
 rw[Fe c d (λh=>absurd h.1 (by decide))]
 show (BR s (l:Int) xs).is=true
 unfold BR
 by_cases a:xs=[]
 ·rw [if_pos a];rfl
 rw[if_neg a];exact b a
variable{n:Nat}
theorem MJ(hs:Aq s)(h:¬s.now.getD n 0=0):8<=n/\n<256:=
 Classical.byContradiction λa=>h (Q3 hs.2.1 (by omega))
theorem HR(h:Ai s n=none)(k:Int):(Be s n).count k=0:=by rw[EC h];rfl
variable{ys:List It}
theorem Y4{k:Int}(h:0<(ys.map (·.ref)).count k):∃x∈ys,x.ref=k:=by
 obtain⟨x,a,e⟩:=List.mem_map.1 (List.count_pos_iff.1 h)
 exact⟨x,a,e⟩
variable{S:List Nat}
theorem wKx{k:Int}(h:0<wS s S k):∃m∈S,∃a ys x,Ai s m=some (a,ys)/\x∈ys/\x.ref=k:=by
 induction S with
 |nil=>simp[wS]at h
 |cons m S d=>
  unfold wS at h d
  rw[map_cons,sum_cons]at h
  by_cases c:0<(Be s m).count k
  ·cases b:Ai s m with
   |none=>rw[HR b]at c;omega
   |some q=>
    obtain⟨a,ys⟩:=q
    rw[CC b]at c
    obtain⟨x,g,e⟩:=Y4 c
    exact⟨m,by simp,a,ys,x,b,g,e⟩
  obtain⟨f,i,j⟩:=d (by omega)
  exact⟨f,by simp[i],j⟩
variable{rs:List Int}
theorem Zv(g:En s S rs):∀(d n:Nat)(lv:Int)(ys:List It),n∈S->Ai s n=some (lv,ys)->6<=lv+d->Rcs s rs n
 |0,n,lv,ys,_,h,z=>by have:=(Ar h).lev;omega
 |d+1,n,lv,ys,B,h,z=>by
  have b:=B0 h
  obtain⟨C,t⟩:=MJ g.ok b
  have l:=g.enough (n:Int) (by omega) (by omega)
  rw[Int.toNat_natCast]at l
  have r:0<(s.now.getD n 0).toNat:=by
   rcases Nat.eq_zero_or_pos (s.now.getD n 0).toNat with i|i
   ·exact absurd (UInt8.toNat.inj i) b
   exact i
  by_cases u:0<wS s S n
  ·obtain ⟨m,k,c,f,x,a,j,e⟩:=wKx u
   have y:=(Ar a).lev
   by_cases i:c=0
   ·subst i
    have:=g.disj m k f a x j (by omega)
    rw[e,Int.toNat_natCast]at this;exact absurd B this
   obtain⟨_,zs,o⟩:=g.closed m k c f a (by omega) x j
   rw[e,Int.toNat_natCast,h]at o
   have D:lv=c-1:=by simp at o;exact o.1
   have:=Rcs.kid (Zv g d m c f k a (by omega)) a (by omega) j
   rwa[e,Int.toNat_natCast]at this
  have:(n:Int)∈rs:=List.count_pos_iff.1 (by omega)
  have:=Rcs.root (s:=s) this
  rwa[Int.toNat_natCast]at this
theorem Fine.live{p:Po}(h:Fine p S [])(s:n∈S)(r:¬p.st.now.getD n 0=0):Rcs p.st (AX p) n:=by
 have d:En p.st S (AX p):=h.en
 cases g:Ai p.st n with
 |some q=>exact Zv d 6 n q.1 q.2 s g (by have:=(Ar g).lev;omega)
 |none=>
  exfalso
  obtain⟨D,u⟩:=MJ d.ok r
  have i:=d.enough (n:Int) (by omega) (by omega)
  rw[Int.toNat_natCast]at i
  have k:0<(p.st.now.getD n 0).toNat:=by
   rcases Nat.eq_zero_or_pos (p.st.now.getD n 0).toNat with f|f
   ·exact absurd (UInt8.toNat.inj f) r
   exact f
  by_cases z:0<wS p.st S n
  ·obtain ⟨m,o,c,b,x,a,j,e⟩:=wKx z
   have C:=(Ar a).lev
   by_cases f:c=0
   ·subst f
    have:=d.disj m o b a x j (by omega)
    rw[e,Int.toNat_natCast]at this;exact this s
   obtain⟨_,zs,t⟩:=d.closed m o c b a (by omega) x j
   rw[e,Int.toNat_natCast,g]at t;cases t
  have B:(n:Int)∈AX p:=List.count_pos_iff.1 (by omega)
  obtain⟨_,_,_,l,xs,y,_⟩:=FV (h.ins _ B).2.2
  rw[Int.toNat_natCast,g]at y;cases y
variable{hs:List Int}
theorem Fine.rcs{p:Po}(h:Fine p S hs)(a:Rcs p.st (AX p) n):n∈S/\Ai p.st n≠none:=by
 induction a with
 |root a=>
  obtain⟨_,c,i⟩:=h.ins _ a
  obtain⟨_,_,_,l,xs,d,_⟩:=FV i
  exact⟨c,by rw[d];simp⟩
 |kid _ b g f e=>
  obtain⟨d,zs,c⟩:=h.en.closed _ e.1 _ _ b g _ f
  exact⟨d,by rw[c];simp⟩
variable{f:Nat->Nat}
theorem ZF:∀{S:List Nat},S.Nodup->(∀n∈S,f n≠0->n<256)->(S.map f).sum=((range 256).map λn=>if n∈S then f n else 0).sum
 |[],_,_=>by
  have:((range 256).map λn=>if n∈([]:List Nat)then f n else 0)=(range 256).map λ_=>0:=map_congr_left λn _=>by simp
  show 0=_;rw[this];decide +kernel
 |a::S,b,c=>by
  obtain⟨i,m⟩:=List.nodup_cons.1 b
  rw[map_cons,sum_cons,ZF m λn b=>c n (by simp[b])]
  by_cases d:a<256
  ·have:=QO (f:=λn=>if n∈S then f n else 0) (g:=λn=>if n∈a::S then f n else 0) (x:=a) (l:=range 256) List.nodup_range (List.mem_range.2 d) (λy _ k=>by simp[k])
   simp only[List.mem_cons,true_or,if_true,i,if_false]at this⊢
   omega
  have j:f a=0:=Classical.byContradiction λh=>d (c a (by simp) h)
  rw[j,Nat.zero_add]
  refine congrArg sum (map_congr_left λn _=>?_)
  by_cases e:n=a
  ·subst e;simp[i,j]
  simp[e]
variable{k:Nat}{xs:List It}
theorem wKg(h:0<k):Gp xs k=(((xs.map (·.ref)).count (k:Int):Nat):Int):=by
 unfold Gp
 rw[List.count_eq_countP,List.countP_map,List.countP_eq_length_filter]
 congr 2
 refine List.filter_congr λx _=>?_
 by_cases e:x.ref=(k:Int)
 ·have a:x.ref≠0:=by omega
  simp[e,Function.comp];omega
 simp[e,Function.comp]
theorem wNs(s:Sto)(n:Nat)(h:0<k):cnt s n k=(((Be s n).count (k:Int):Nat):Int):=by
 unfold cnt
 cases a:Ai s n with
 |none=>rw[HR a];rfl
 |some q=>rw[CC (lv:=q.1) (ys:=q.2) a];exact wKg h
variable{g:Nat->Nat}
theorem QP{f:Nat->Int}:∀{l:List Nat},(∀n∈l,f n=(g n:Int))->(l.map f).sum=(((l.map g).sum:Nat):Int)
 |[],_=>rfl
 |a::l,h=>by
  rw[map_cons,sum_cons,map_cons,sum_cons,h a (by simp),QP λn b=>h n (by simp[b])]
  push_cast;rfl
variable{R:List Int}
theorem Fine.sg{p:Po}(h:Fine p S hs){N:List Int}(d:Fin p.st (AX p) R N)(hk:0<k/\k<256):
  R.getD k 0<=((p.st.now.getD k 0).toNat:Int)/\(hs=[]->R.getD k 0=((p.st.now.getD k 0).toNat:Int)):=by
 have s:=d.eq k hk.2
 have c:=h.en.enough (k:Int) (by omega) (by omega)
 rw[Int.toNat_natCast,count_append]at c
 have j:=ZF (f:=λn=>(Be p.st n).count (k:Int)) h.en.nodup λn _ m=>by
  cases b:Ai p.st n with
  |none=>exact absurd (HR b _) m
  |some q=>exact wAx h.en b
 have o:wS p.st S (k:Int)=((range 256).map λn=>if n∈S then (Be p.st n).count (k:Int)else 0).sum:=j
 have r:Go.Proofs.YtdahhoicackcaaaGreat.sg p.st N k=((((range 256).map λn=>if 0<N.getD n 0 then (Be p.st n).count (k:Int)else 0).sum:Nat):Int):=by
  unfold Go.Proofs.YtdahhoicackcaaaGreat.sg
  exact QP λn _=>by split<;>simp[wNs p.st n hk.1]
 have g:((range 256).map λn=>if 0<N.getD n 0 then (Be p.st n).count (k:Int)else 0).sum<=((range 256).map λn=>if n∈S then (Be p.st n).count (k:Int)else 0).sum:=Go.Proofs.YtdahhoicackcaaaGreat.sum_le λn _=>by
  by_cases a:0<N.getD n 0
  ·rw [if_pos a,if_pos (h.rcs ((d.on n).1 a)).1];exact Nat.le_refl _
  rw[if_neg a];exact Nat.zero_le _
 refine⟨by omega,λe=>?_⟩
 subst e
 have i:((range 256).map λn=>if 0<N.getD n 0 then (Be p.st n).count (k:Int)else 0).sum=((range 256).map λn=>if n∈S then (Be p.st n).count (k:Int)else 0).sum:=congrArg sum (map_congr_left λn _=>by
  by_cases a:n∈S
  ·rw [if_pos a]
   cases b:Ai p.st n with
   |none=>rw[HR b];simp
   |some q=>rw[if_pos ((d.on n).2 (h.live a (B0 b)))]
  rw[if_neg a,if_neg λl=>a (h.rcs ((d.on n).1 l)).1])
 simp only[List.count_nil,Nat.zero_add]at c
 omega
theorem LA:∀{rs refs nodes:List Int},(∀r∈rs,DQ s r=true)->∃x,B3 s rs refs nodes=some x
 |[],refs,nodes,_=>⟨_,rfl⟩
 |r::rs,refs,nodes,h=>by
  rw[B3,if_pos (h r (by simp))]
  exact LA λz a=>h z (by simp[a])
theorem Fine.cens{p:Po}(h:Fine p S hs):∃R N,Go.Proofs.YtdahhoicackcaaaGreat.cens p.st p.root p.next p.dead=some (QK p,R,N)/\Fin p.st (AX p) R N:=by
 have a:=(h.ins p.root (by unfold AX DW;simp)).2.2
 obtain⟨c,d,_,l,xs,k,_⟩:=FV a
 have t:lrn p.st p.root (-1)=some ((l:Int),xs):=Fe d k (λh=>absurd h.1 (by decide))
 have y:allT p.st p.root=Aw p.st l xs:=by unfold allT;rw[k];simp
 have m:Ct p.st p.next ((l:Int)).toNat xs []=some (QK p):=by
  rw[Int.toNat_natCast,HI,<-y,MB (by simp),if_pos ⟨h.vol,by simpa using h.few⟩];rfl
 obtain⟨⟨R,N⟩,j⟩:=LA (s:=p.st) (rs:=AX p) (refs:=zI) (nodes:=zI) λr d=>wEm (h.ins r d).2.2
 have b:(AX p).length<=600:=by have F:=h.dead;have E:=h.few;unfold AX DW QK;simp;omega
 have f:=XG b j
 have e:enough p.st R:=λi u=>?_
 ·exact ⟨R,N,by rw[Pw ⟨c,h.dead,wEm a⟩ t m j,if_pos e],f⟩
 by_cases z:0<i
 ·exact (h.sg f ⟨z,u⟩).1
 obtain rfl:i=0:=by omega
 have D:=f.eq 0 (by omega)
 have C:(AX p).count ((0:Nat):Int)=0:=List.count_eq_zero.2 λo=>by have:=(h.ins _ o).1;omega
 have B:Go.Proofs.YtdahhoicackcaaaGreat.sg p.st N 0=0:=by
  unfold Go.Proofs.YtdahhoicackcaaaGreat.sg
  rw[QP (g:=λ_=>0) λn _=>by
   split
   ·unfold cnt;split
    ·unfold Gp
     rw[List.filter_eq_nil_iff.2 λx _=>by simp];rfl
    rfl
   rfl]
  have:((range 256).map λ_:Nat=>(0:Nat)).sum=0:=by decide +kernel
  rw[this];rfl
 rw[D,C,B];omega
theorem Fine.chk{p:Po}(h:Fine p S hs):Ax p=0:=by
 obtain⟨R,N,a,_⟩:=h.cens;exact poChk_is.2 ⟨_,a⟩
theorem Fine.cnt{p:Po}(h:Fine p S []):RF p=true:=cntB_iff.2 ⟨h.chk,λj d c=>by
 obtain⟨R,N,a,b⟩:=h.cens
 have:BK p=R:=by unfold BK;rw[a]
 rw[this]
 exact(h.sg b ⟨by omega,c⟩).2 rfl⟩
theorem Fine.nodes{p:Po}(h:Fine p S [])(c:n∈S)(a:¬p.st.now.getD n 0=0):(n:Int)∈BH p:=by
 obtain⟨R,N,b,d⟩:=h.cens
 have:BH p=Kj N 256:=by unfold BH;rw[b]
 rw[this]
 unfold Kj
 exact List.mem_map.2 ⟨n,List.mem_filter.2 ⟨List.mem_range.2 (MJ h.en.ok a).2,decide_eq_true ((d.on n).2 (h.live c a))⟩,rfl⟩
set_option maxRecDepth 8000
abbrev JX(l:List It):List Int:=l.map λy=>(CA y).root
theorem BF(p:Po):AX p=(p.root::p.dead)++JX (allT p.st p.root):=by simp_all [AX,DW,QK,JX]
def Oks(s:Sto)(S:List Nat)(t:Sto)(S':List Nat)(R:List Int):Prop:=∀r∈R,r.toNat∈S->(fchk s r).2=0->fchk t r=fchk s r/\allT t r=allT s r/\r.toNat∈S'
variable{R:List Int}{S S':List Nat}{s t:Sto}
theorem Kp.oks(h:Kp s S t S' R)(a:Aq t):Oks s S t S' R:=λr b d c=>h.tree a b d c
theorem Oks.sub{R':List Int}(h:Oks s S t S' R)(hs:∀r∈R',r∈R):Oks s S t S' R':=λr a=>h r (hs r a)
abbrev EE(p:Po)(t:Sto):Po:=⟨t,p.gen,p.root,p.next,p.dead⟩
variable{hs:List Int}
theorem Fine.move{p:Po}{hs':List Int}(h:Fine p S hs)(hk:Oks p.st S t S' (AX p))(f:En t S' (hs'++AX p)):Fine (EE p t) S' hs'/\allT t p.root=allT p.st p.root/\AX (EE p t)=AX p:=by
 have b:p.root∈AX p:=by grind[BF]
 have d:=(hk _ b (h.ins _ b).2.1 (h.ins _ b).2.2).2.1
 have a:AX (EE p t)=AX p:=by simp_all [BF,JX,allT]
 refine⟨⟨by rw[a];exact f,λr b=>?_,λx e=>?_,?_,h.dead,h.next,h.gen⟩,d,a⟩
 ·rw [a]at b
  obtain⟨l,i,g⟩:=h.ins r b
  obtain⟨k,_,j⟩:=hk r b i g
  grind
 ·have c:x∈allT t p.root:=e
  rw[d]at c;exact h.vol x c
 show (allT t p.root).length<=16;rw[d];exact h.few
variable{k:Int}
theorem ZS(h:E7 s k=.ok t):(8<=k/\k<256)/\shareE s k.toNat=0/\t=AQ s k.toNat/\¬s.now.getD k.toNat 0=0/\Aq s:=by
 grind[E7,askE,shareE]
theorem Fine.share{p:Po}(h:Fine p S hs)(c:E7 p.st k=.ok t):Fine (EE p t) S (k::hs)/\Oks p.st S t S (k::hs++AX p)/\AX (EE p t)=AX p:=by
 obtain⟨j,d,rfl,_,b⟩:=ZS c
 obtain⟨e,g⟩:=FC (by have:=b.2.1.1;omega) d
 have a:=h.en.share j d
 have f:Oks p.st S (AQ p.st k.toNat) S (k::hs++AX p):=(Kp.ext e λn i _=>i).oks a.ok
 have l:=h.move (f.sub λr c=>by simp[c]) (hs':=k::hs) a
 grind
theorem wNx(h:(fchk s k).2=0):askE s k=0:=by
 obtain⟨c,b,a,_⟩:=FV h
 grind[askE]
theorem Fine.leave{p:Po}(h:Fine p S (k::hs))(f:k.toNat∈S)(c:(fchk p.st k).2=0):∃t,Gl p.st k=.ok t/\Fine (EE p t) S hs:=by
 obtain⟨_,e,_,l,xs,a,_⟩:=FV c
 obtain⟨t,i,b,g⟩:=GF (s:=p.st) (S:=S) (R:=hs++AX p) h.en e f a
 refine⟨t,by unfold Gl;rw[if_pos (wNx c)];unfold lvS;rw[i],?_⟩
 exact(h.move ((Kp.thin g b).oks b.ok |>.sub λr d=>mem_append_right _ d) b).1
variable{α:Type}
theorem wLo{p q r:α->Bool}:∀{l:List α},(∀y∈l,(p y=true/\q y=false/\r y=false)\/(p y=false/\q y=true/\r y=false)\/(p y=false/\q y=false/\r y=true))->(l.filter p++(l.filter q++l.filter r)).Perm l
 |[],_=>List.Perm.refl _
 |y::l,h=>by
  have d:=wLo (p:=p) (q:=q) (r:=r) (l:=l) λz e=>h z (List.mem_cons_of_mem _ e)
  rcases h y (by simp)with⟨c,b,a⟩|⟨c,b,a⟩|⟨c,b,a⟩
  ·simp only[filter_cons,c,b,a,if_true,if_false,Bool.false_eq_true,cons_append];exact d.cons _
  ·simp only[filter_cons,c,b,a,if_true,if_false,Bool.false_eq_true,cons_append];exact List.perm_middle.trans (d.cons _)
  simp only[filter_cons,c,b,a,if_true,if_false,Bool.false_eq_true];exact(List.Perm.append_left _ List.perm_middle).trans (List.perm_middle.trans (d.cons _))
variable{a:Ky}
theorem Yw{b:Ky}(d:Ap a b=false)(c:Ap b a=false):a=b:=by
 unfold Ap at d c
 have d:=of_decide_eq_false d
 have c:=of_decide_eq_false c
 obtain⟨j,i,h⟩:=a
 obtain⟨g,f,e⟩:=b
 grind
theorem GH(a:Ky):Ap a a=false:=by grind[Ap]
theorem wBq{b:Ky}(h:Ap a b=true):Ap b a=false:=by
 grind[Ap]
def F3(k:Ky)(y:It):Bool:=decide (y.key=k)
theorem Lg(x:It)(l:List It):(C5 x l++l.filter (F3 x.key)).Perm (x::l):=by
 have c:=wLo (p:=λy:It=>Ap y.key x.key) (q:=λy=>Ap x.key y.key) (r:=F3 x.key) (l:=l) λy _=>by
  cases a:Ap y.key x.key with
  |true=>exact .inl ⟨rfl,wBq a,decide_eq_false λe=>by rw[e,GH]at a;cases a⟩
  |false=>cases b:Ap x.key y.key with
   |true=>exact .inr (.inl ⟨rfl,rfl,decide_eq_false λe=>by rw[e,GH]at b;cases b⟩)
   |false=>exact .inr (.inr ⟨rfl,rfl,decide_eq_true (Yw a b)⟩)
 grind[C5]
theorem Zu{v:Vo}(g:0<=v.root/\v.root<65536)(h:0<=v.frm/\v.frm<4294967296):CA (BO v)=v:=by
 have e:wKy v=Cy v.root++([bB v.frz]++A6 v.frm):=by grind[wKy]
 have d:Cl (wKy v) 0 2=v.root:=by rw[D4 (xs:=wKy v) (a:=0) (n:=2) [] (Cy v.root) _ e rfl rfl,J1 g]
 have c:Cl (wKy v) 3 4=v.frm:=by grind[D4,wKy,Cy,bB,A6,Eo]
 have b:(wKy v).getD 2 0=bB v.frz:=by rw[e];rfl
 obtain⟨i,r,f,m⟩:=v
 unfold CA BO
 simp only at d c b⊢
 rw[d,c,b]
 cases f<;>rfl
theorem wKk{p:Po}(h:Ax p=0):(∀x∈allT p.st p.root,Dj x/\x.key.id≠0/\x.key.id<p.next)/\(allT p.st p.root).length<=16/\p.dead.length<=40:=by
 obtain⟨⟨d,R,N⟩,a⟩:=poChk_is.1 h
 unfold cens at a
 split at a
 ·rename_i f
  split at a
  ·cases a
  rename_i e xs c
  obtain⟨_,_,b,_⟩:=Q7 c
  grind[Ar,allT,Aw,HI,MB]
 grind
theorem as_ok{p:Po}{v:Vo}(h:asE p v=0):v.id≠0/\v.id<p.next/\8<=v.root/\v.root<256/\(fchk p.st v.root).2=0:=by
 grind[asE]
variable{root:Int}
theorem WI{n:Int}{x:It}(h:Fw s root x=.ok (t,n)):CL s root x=0:=Classical.byContradiction λa=>by unfold Fw at h;rw[if_pos a]at h;cases h
def K3(p:Po)(i:Int):List Int:=JX ((allT p.st p.root).filter (F3 (Uf i)))
variable{l:List It}
theorem Xy{x:It}(k:Int):(JX (C5 x l)).count k+(JX (l.filter (F3 x.key))).count k=((CA x).root::JX l).count k:=by
 have:=((Lg x l).map λy=>(CA y).root).count_eq k
 grind
theorem Fine.set{p q:Po}{v:Vo}(h:Fine p S (v.root::hs))(J:v.root.toNat∈S)(z:0<=v.id)(B:0<=v.frm/\v.frm<4294967296)(c:Dq p v=.ok q):
  ∃S',Fine q S' (K3 p v.id++hs)/\allT q.st q.root=C5 (BO v) (allT p.st p.root)/\Oks p.st S q.st S' (v.root::hs++(p.dead++JX (allT p.st p.root)))/\q.gen=p.gen/\q.next=p.next/\q.dead=p.dead:=by
 unfold Dq at c
 split at c
 ·rename_i I
  obtain⟨G,F,o,f,H⟩:=as_ok I
  split at c
  ·cases c
  rename_i t n u
  split at c
  ·rename_i s
   cases c
   have U:=h.next
   have b:p.root∈AX p:=by grind[BF]
   have d:CA (BO v)=v:=Zu ⟨by omega,by omega⟩ B
   have C:En p.st S ((BO v).ref::p.root::(v.root::hs++(p.dead++JX (allT p.st p.root)))):=h.en.less λk E=>by
    rw[BF]
    simp only[count_cons,count_append,cons_append]
    rw[show ((BO v).ref==k)=false from beq_false_of_ne (by show (0:Int)≠k;omega)]
    simp only[Bool.false_eq_true,if_false];omega
   obtain⟨e,V,_⟩|⟨O,Q,S',K,P⟩:=WG (WI u) (x:=BO v) ⟨⟨by show (0:Int)<=1;omega,by show (1:Int)<256;omega⟩,⟨z,by show v.id<_;omega⟩,by show (0:Int)<=0;omega,by show (0:Int)<4294967296;omega⟩ (λe=>absurd rfl e) C (h.ins _ b).2.1
   ·grind
   rw[K]at u;cases u
   obtain⟨N,M,L⟩:=wKk s
   have i:allT t n=C5 (BO v) (allT p.st p.root):=P.all
   have m:AX ⟨t,p.gen,n,p.next,p.dead⟩=(n::p.dead)++JX (C5 (BO v) (allT p.st p.root)):=by simp_all [BF,JX,allT]
   have g:=λk=>Xy (x:=BO v) (l:=allT p.st p.root) k
   rw[d]at g
   refine⟨S',⟨P.en.less λk E=>?_,λr a=>?_,N,M,L,h.next,h.gen⟩,i,P.other,rfl,rfl,rfl⟩
   ·grind [K3,Uf,BO]
   rw[m,cons_append]at a
   rcases List.mem_cons.1 a with rfl|a
   ·exact ⟨P.rng,P.inS,P.chk⟩
   have f:r=v.root\/r∈AX p:=by
    grind[BF,Lg,BO,allT]
   have D:(8<=r/\r<256)/\r.toNat∈S/\(fchk p.st r).2=0:=f.elim (λe=>by rw[e];exact⟨⟨o,by omega⟩,J,H⟩) (h.ins r)
   obtain⟨T,_,R⟩:=P.other r (by
    rcases List.mem_append.1 a with a|a
    ·simp [a]
    obtain⟨y,j,e⟩:=List.mem_map.1 a
    rcases List.mem_cons.1 ((Lg (BO v) (allT p.st p.root)).subset (List.mem_append_left _ j))with rfl|j
    ·rw [d]at e;simp[e]
    exact mem_append_right _ (mem_append_right _ (List.mem_map.2 ⟨y,j,e⟩))) D.2.1 D.2.2
   grind
  grind
 grind
set_option maxRecDepth 8000
theorem WK:∀{l:List It}{x:It},Srt l->x∈l->l.filter (F3 x.key)=[x]
 |y::l,x,hs,a=>by
  obtain⟨c,f⟩:=List.pairwise_cons.1 hs
  rcases List.mem_cons.1 a with rfl|a
  ·have b:l.filter (F3 x.key)=[]:=List.filter_eq_nil_iff.2 λz d=>by
    have:=c z d
    intro e
    rw[show z.key=x.key from of_decide_eq_true e,GH]at this;cases this
   rw[filter_cons,b,if_pos (show F3 x.key x=true from decide_eq_true rfl)]
  have b:¬F3 x.key y=true:=λe=>by
   have:=c x a
   rw[show y.key=x.key from of_decide_eq_true e,GH]at this;cases this
  rw[filter_cons,if_neg b,WK f a]
variable{S:List Nat}{hs:List Int}
theorem Fine.srt{p:Po}(h:Fine p S hs):Srt (allT p.st p.root):=by
 have a:p.root∈AX p:=by grind[BF]
 obtain⟨_,_,_,l,xs,c,b,_⟩:=FV (h.ins _ a).2.2
 grind[allT,E6]
theorem Fine.volx{p:Po}(h:Fine p S hs){q:Int}(b:volE p q=0):∃x∈allT p.st p.root,volV p q=CA x/\x.key=Uf q/\K3 p q=[(volV p q).root]/\(volV p q).root∈AX p:=by
 obtain⟨R,N,i,_⟩:=h.cens
 have g:=Gr b
 replace b:(match Jj (QK p) q with|none=>(6:Int)|some _=>0)=0:=by unfold volE at b;rw[i]at b;exact b
 have c:volV p q=(Jj (QK p) q).getD ⟨0,0,false,0⟩:=by unfold volV;rw[i]
 cases f:Jj (QK p) q with
 |none=>rw[f]at b;cases b
 |some v=>
  rw[f]at c
  have k:v∈QK p:=List.mem_of_find?_eq_some f
  obtain⟨x,a,e⟩:=List.mem_map.1 k
  have d:volV p q=CA x:=by rw[c,e];rfl
  have j:x.key=Uf q:=by rw[<-(h.vol x a).1.2,<-g,d];rfl
  refine⟨x,a,d,j,?_,?_⟩
  ·unfold K3;rw[<-j,WK h.srt a,d];rfl
  rw[BF];exact mem_append_right _ (List.mem_map.2 ⟨x,a,by rw[d]⟩)
variable{i:Int}
theorem Fine.old_none{p:Po}(h:Fine p S hs)(c:p.next<=i):K3 p i=[]:=by
 unfold K3
 rw[List.filter_eq_nil_iff.2 λy a e=>?_];rfl
 have b:=(h.vol y a).2.2
 rw[show y.key=Uf i from of_decide_eq_true e]at b
 grind[Uf]
theorem P3{r:Except Int Po}{q:Po}(h:JU r=.ok q):r=.ok q:=by
 cases r with
 |error e=>cases h
 |ok p=>
  by_cases a:DF p.st
  ·rw [UP a]at h;exact h
  rw[UQ a]at h;cases h
structure ByOk(p:Po)(t:Sto)(S:List Nat)(u:Sto)(n:Int)(S':List Nat)(hs':List Int):Prop where
 rng:8<=n/\n<256
 inS:n.toNat∈S'
 chk:(fchk u n).2=0
 en:En u S' ((n::hs')++AX p)
 oks:Oks t S u S' (AX p)
variable{byF:Sto->Except Int (Sto×Int)}{r:Po}
theorem Fine.change{p:Po}{hs':List Int}{q:Int}(h:Fine p S hs)(f:volE p q=0)(I:0<=q)
  (i:∀t u n,Fine (EE p t) S ((volV p q).root::hs)->AX (EE p t)=AX p->byF t=.ok (u,n)->∃S',ByOk p t S u n S' hs') (b:Dn p (volV p q) byF=.ok r):∃S',Fine r S' hs':=by
 obtain⟨x,G,C,Q,hold,H⟩:=h.volx f
 unfold Dn PN at b
 split at b
 ·cases b
 rename_i t o
 obtain⟨z,_,c⟩:=h.share o
 unfold TW at b
 split at b
 ·cases b
 rename_i u n L
 obtain⟨S',B⟩:=i t u n z c L
 obtain⟨k,j,m⟩:=z.move (c.symm▸B.oks) (hs':=n::hs') (c.symm▸B.en)
 unfold wKn at b
 split at b
 ·cases b
 rename_i P g
 obtain⟨N,y,_,J,_⟩:=Fine.set (p:=EE p u) (v:=⟨(volV p q).id,n,(volV p q).frz,(volV p q).frm⟩) (hs:=hs') k B.inS (by rw[Gr f];exact I) (by rw[C];exact GK _ _ _) g
 have s:allT u p.root=allT p.st p.root:=by
  have a:p.root∈AX p:=by grind[BF]
  have:=k.srt
  rw[show allT u p.root=allT t p.root from j]
  exact((h.share o).2.1 p.root (mem_append_right _ a) (h.ins _ a).2.1 (h.ins _ a).2.2).2.1
 have d:K3 (EE p u) (volV p q).id=[(volV p q).root]:=by
  rw[<-hold,Gr f];unfold K3;show JX ((allT u p.root).filter _)=_;rw[s]
 rw[show (⟨(volV p q).id,n,(volV p q).frz,(volV p q).frm⟩:Vo).id=(volV p q).id from rfl,d]at y
 have e:(volV p q).root∈AX (EE p u):=by grind
 obtain⟨_,F,l⟩:=k.ins _ e
 obtain⟨E,_,D⟩:=J (volV p q).root (by
  refine mem_append_right _ (mem_append_right _ ?_)
  show _∈JX (allT u p.root)
  rw[s];exact List.mem_map.2 ⟨x,G,by rw[C]⟩) F l
 obtain⟨O,K,M⟩:=y.leave D (by rw[E];exact l)
 rw[K]at b
 cases b
 exact⟨N,M⟩
theorem Fine.put{p:Po}{q:Int}{x:It}(h:Fine p S hs)(m:0<=q/\q<4294967296)(hk:BP x.key)(j:(x.ref=0/\hs=[])\/(hs=[x.ref]/\x.ref.toNat∉S))(a:E4 p q x=.ok r):∃S',Fine r S' []:=by
 unfold E4 at a
 split at a
 ·rename_i i
  split at a
  ·split at a
   ·cases a
   refine h.change (Jt i) m.1 (λt u n l b f=>?_) (P3 a)
   obtain⟨_,_,_,_,_,c⟩:=h.volx (Jt i)
   have o:=l.ins _ (b.symm▸c)
   have d:En t S (x.ref::(volV p q).root::AX p):=l.en.less λk hk=>by
    rw[b]
    rcases j with⟨g,z⟩|⟨g,_⟩
    ·rw [g,z]
     simp only[count_cons,count_append,cons_append,nil_append]
     rw[show ((0:Int)==k)=false from beq_false_of_ne (by omega)];simp
    rw[g]
    simp only[count_cons,count_append,cons_append,nil_append]
    omega
   obtain⟨e,D,_⟩|⟨B,C,S',s,P⟩:=WG (WI f) hk (λy=>j.elim (λe=>absurd e.1 y) λe=>e.2) d o.2.1
   ·grind
   rw[s]at f;cases f
   exact⟨S',P.rng,P.inS,P.chk,P.en,P.other⟩
  grind
 grind
variable{k:Ky}
theorem Fine.del{p:Po}{q:Int}(h:Fine p S [])(o:0<=q/\q<4294967296)(d:JZ p q k=.ok r):∃S',Fine r S' []:=by
 unfold JZ at d
 split at d
 ·rename_i i
  refine h.change (Jt i) o.1 (λt u n m b a=>?_) (P3 d)
  obtain⟨_,_,_,_,_,f⟩:=h.volx (Jt i)
  have j:=m.ins _ (b.symm▸f)
  have l:(fchk t (volV p q).root).2=0:=j.2.2
  cases c:fnd t (volV p q).root k with
  |none=>rw[RC l c]at a;cases a
  |some y=>
   have g:En t S ((volV p q).root::AX p):=by have:=m.en;rw[b]at this;exact this
   obtain⟨e,s,_⟩|⟨B,C,S',z,P⟩:=Xn l c g j.2.1
   ·rw [s]at a;cases a
   rw[z]at a;cases a
   exact⟨S',P.rng,P.inS,P.chk,P.en,P.other⟩
 cases d
theorem Fine.next1{p:Po}(h:Fine p S hs)(b:p.next≠4294967295):Fine ⟨p.st,p.gen,p.root,p.next+1,p.dead⟩ S hs:=
 ⟨h.en,h.ins,λx a=>⟨(h.vol x a).1,(h.vol x a).2.1,by have:=(h.vol x a).2.2;show x.key.id<p.next+1;omega⟩,h.few,h.dead,by have:=h.next;show 0<=p.next+1/\p.next+1<_;omega,h.gen⟩
variable{n:Int}{t:Sto}
theorem Fine.new{p:Po}(h:Fine p S [])(hp:SQ p.st=.ok (t,n)):∃S',Fine (EE p t) S' [n]/\n.toNat∈S':=by
 unfold SQ at hp
 split at hp
 ·rename_i k
  cases hp
  have f:mkE p.st 0 []=0:=by grind[Qz]
  obtain⟨S',b,e,d,c,j,i,_⟩:=En.make (lv:=0) (xs:=[]) h.en (λ_ x a=>by cases a) (by decide) (λx a=>by cases a) (λ_ x a=>by cases a) (λx a=>by cases a) f
  have g:=h.move ((Kp.ext c d).oks b.ok) (hs':=[((mkAt p.st:Nat):Int)]) b
  exact⟨S',g.1,e⟩
 grind
theorem Fine.create{p:Po}(h:Fine p S [])(a:FB p=.ok r):∃S',Fine r S' []:=by
 obtain⟨R,N,b,_⟩:=h.cens
 unfold FB at a
 rw[b]at a
 dsimp only at a
 split at a
 ·cases a
 rename_i k
 unfold Y0 at a
 split at a
 ·cases a
 rename_i t n d
 obtain⟨S',c,g⟩:=h.new d
 have j:=Fine.next1 (p:=EE p t) c (λe=>k (.inr e))
 have f:=h.next
 obtain⟨o,m,_⟩:=Fine.set (p:=⟨t,p.gen,p.root,p.next+1,p.dead⟩) (v:=⟨p.next,n,false,0⟩) (hs:=[]) j g f.1 ⟨by show (0:Int)<=0;omega,by show (0:Int)<4294967296;omega⟩ a
 have l:K3 ⟨t,p.gen,p.root,p.next+1,p.dead⟩ p.next=[]:=(Fine.old_none (p:=EE p t) c (i:=p.next) (Int.le_refl _))
 grind
theorem wNh{p q:Po}(h:Fz p i=.ok q):volE p i=0/\q=p:=by
 grind[Fz]
theorem wNg{r:Except Int Po}{q:Po}{k:Int}(h:EP r k=.ok q):∃p t,r=.ok p/\E7 p.st k=.ok t/\q=EE p t:=by
 unfold EP at h
 grind
theorem Fine.hold{p c:Po}(h:Fine p S [])(k:EP (Fz p i) (volV p i).root=.ok c):volE p i=0/\∃t,c=EE p t/\Fine (EE p t) S [(volV p i).root]/\(volV p i).root.toNat∈S/\allT t p.root=allT p.st p.root:=by
 obtain⟨d,t,e,g,rfl⟩:=wNg k
 obtain⟨f,rfl⟩:=wNh e
 obtain⟨_,_,_,_,_,b⟩:=h.volx f
 obtain⟨l,j,_⟩:=h.share g
 have a:d.root∈AX d:=by grind[BF]
 exact⟨f,t,rfl,l,(h.ins _ b).2.1,(j _ (mem_append_right _ a) (h.ins _ a).2.1 (h.ins _ a).2.2).2.1⟩
theorem wCo{r:Except Int Po}{q:Po}{v:Vo}(h:Jb r v=.ok q):∃p,r=.ok p/\Dq p v=.ok q:=by
 unfold Jb at h
 grind
variable{f:Bool}
theorem Fine.snap{p:Po}(h:Fine p S [])(k:0<=i/\i<4294967296)(a:Nr p i f=.ok r):∃S',Fine r S' []:=by
 unfold Nr at a
 split at a
 ·cases a
 rename_i o
 obtain⟨u,b,n⟩:=wCo (P3 a)
 unfold Mu at b
 split at b
 ·cases b
 rename_i s c
 cases b
 obtain⟨g,t,rfl,d,l,z⟩:=h.hold c
 have j:=h.next
 have m:=Fine.next1 (p:=EE p t) d (λe=>o ⟨g,.inr e⟩)
 obtain⟨C,B,_⟩:=Fine.set (p:=⟨t,p.gen,p.root,p.next+1,p.dead⟩) (v:=⟨p.next,(volV p i).root,f,i⟩) (hs:=[]) m l j.1 k n
 have y:K3 ⟨t,p.gen,p.root,p.next+1,p.dead⟩ p.next=[]:=(Fine.old_none (p:=EE p t) d (i:=p.next) (Int.le_refl _))
 grind
theorem Fine.freeze{p:Po}(h:Fine p S [])(z:0<=i/\i<4294967296)(a:VN p i f=.ok r):∃S',Fine r S' []:=by
 unfold VN at a
 have a:=P3 a
 unfold PM at a
 split at a
 ·cases a
 rename_i k B
 obtain⟨K,H,G⟩:=wCo B
 obtain⟨c,t,rfl,g,D,C⟩:=h.hold H
 obtain⟨x,L,I,M,hold,o⟩:=h.volx c
 obtain⟨j,E,_,s,_⟩:=Fine.set (p:=EE p t) (v:=⟨(volV p i).id,(volV p i).root,f,(volV p i).frm⟩) (hs:=[]) g D (by rw[Gr c];exact z.1) (by rw[I];exact GK _ _ _) G
 have b:K3 (EE p t) (volV p i).id=[(volV p i).root]:=by
  rw[<-hold,Gr c];unfold K3;show JX ((allT t p.root).filter _)=_;rw[C]
 have e:Fine k j (K3 (EE p t) (volV p i).id++[]):=E
 rw[b]at e
 have u:(volV p i).root∈AX (EE p t):=by
  simp_all [BF,JX,allT]
 obtain⟨_,n,d⟩:=g.ins _ u
 obtain⟨m,_,l⟩:=s (volV p i).root (by simp) n d
 obtain⟨J,y,F⟩:=e.leave l (by rw[m];exact d)
 rw[y]at a
 cases a
 exact⟨j,F⟩
variable{l:List It}
theorem wAs{q:Ky}(k:Int):(JX (l.filter (Ec q))).count k+(JX (l.filter (F3 q))).count k=(JX l).count k:=by
 have h:(l.filter (Ec q)++l.filter (F3 q)).Perm l:=by
  have e:l.filter (F3 q)=l.filter λy=> !Ec q y:=List.filter_congr λy _=>by unfold F3 Ec;by_cases h:y.key=q<;>simp[h]
  rw[e];exact List.filter_append_perm _ _
 grind
theorem Fine.delete{p:Po}(h:Fine p S [])(d:NB p i=.ok r):∃S',Fine r S' []:=by
 unfold NB at d
 split at d
 ·rename_i D
  split at d
  ·cases d
  rename_i W
  obtain⟨x,K,Q,X,hold,L⟩:=h.volx D
  unfold wHa at d
  split at d
  ·cases d
  rename_i T j
  cases d
  unfold Nf at j
  rw[if_pos D]at j
  split at j
  ·cases j
  rename_i t n a
  cases j
  have f:p.root∈AX p:=by rw[BF];simp
  obtain⟨_,z,o⟩:=h.ins _ f
  cases s:fnd p.st p.root (Uf i)with
  |none=>rw[RC o s]at a;cases a
  |some y=>
   have B:En p.st S (p.root::(p.dead++JX (allT p.st p.root))):=by have:=h.en;rw[BF]at this;exact this
   obtain⟨e,M,_⟩|⟨R,U,S',O,P⟩:=Xn o s B z
   ·rw [M]at a;cases a
   rw[O]at a;cases a
   have c:allT t n=(allT p.st p.root).filter (Ec (Uf i)):=P.all
   have m:AX ⟨t,p.gen,n,p.next,p.dead++[(volV p i).root]⟩=(n::(p.dead++[(volV p i).root]))++JX ((allT p.st p.root).filter (Ec (Uf i))):=by rw[BF];show (n::_)++JX (allT t n)=_;rw[c]
   refine⟨S',P.en.less λk V=>?_,λr b=>?_,λy u=>?_,?_,?_,h.next,h.gen⟩
   ·have F:=wAs (l:=allT p.st p.root) (q:=Uf i) k
    have N:JX ((allT p.st p.root).filter (F3 (Uf i)))=[(volV p i).root]:=hold
    rw[N]at F
    rw[m]
    simp only[count_cons,count_append,cons_append,nil_append,List.count_nil]at F⊢
    omega
   ·rw [m,cons_append]at b
    rcases List.mem_cons.1 b with rfl|b
    ·exact ⟨P.rng,P.inS,P.chk⟩
    have E:r∈p.dead++JX (allT p.st p.root):=by
     rcases List.mem_append.1 b with b|b
     ·rcases List.mem_append.1 b with b|b
      ·simp [b]
      rw[List.mem_singleton.1 b];exact mem_append_right _ (List.mem_map.2 ⟨x,K,by rw[Q]⟩)
     obtain⟨y,u,e⟩:=List.mem_map.1 b
     exact mem_append_right _ (List.mem_map.2 ⟨y,(List.mem_filter.1 u).1,e⟩)
    obtain⟨J,I,C⟩:=h.ins r (by rw[BF];simp only[cons_append];exact List.mem_cons_of_mem _ E)
    obtain⟨H,_,G⟩:=P.other r E I C
    exact⟨J,G,by show (fchk t r).2=0;rw[H];exact C⟩
   ·have g:y∈allT t n:=u
    rw[c]at g;exact h.vol y (List.mem_filter.1 g).1
   ·show (allT t n).length<=16
    rw[c];exact Nat.le_trans (List.length_filter_le _ _) h.few
   show (p.dead++[(volV p i).root]).length<=40
   rw[length_append];show _+1<=40;omega
 cases d
end Go.Proofs.YtdahhoicackcaaaGreat
