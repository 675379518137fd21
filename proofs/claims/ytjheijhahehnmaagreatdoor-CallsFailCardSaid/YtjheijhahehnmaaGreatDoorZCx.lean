/- Walks: alive. No statement of the seat is proved here. -/
import Derived.Test.YtjheijhahehnmaaGreatDoorZCs
namespace Go.Proofs.YtjheijhahehnmaaGreatDoor
open Go.Proofs.Tryz
open List (length length_map length_nil take_length getElem_mem map_map foldl_cons)
set_option linter.unusedSimpArgs false
set_option linter.unusedVariables false
set_option linter.unusedSectionVars false
set_option maxHeartbeats 40000000
set_option maxRecDepth 100000
open Go.RowKit
variable{c:Int×List (List By)}{s:List By}
theorem wAv(h:DY s=some c):u32 c.1:=by
 unfold DY at h;split at h
 ·unfold WL at h;split at h
  ·rename_i v b;split at h
   ·rename_i a;obtain⟨l,_,rfl⟩:=Option.map_eq_some_iff.1 h;have:=QT a.1 (by rw[a.2.2];exact a.2.1);exact⟨a.1,by dsimp only;omega⟩
   cases h
  cases h
 cases h
theorem Z4{p:Po}{c:Int×Ino}(h:Eb p s=some c):u32 c.1/\u32 c.2.id:=by
 unfold Eb at h;obtain⟨a,e,f⟩:=Option.bind_eq_some_iff.1 h;obtain⟨z,b,rfl⟩:=Option.map_eq_some_iff.1 f;obtain⟨i,d⟩:=TJ b;exact⟨wAv e,Nr d⟩
theorem Dt{p:Po}{c:Int×Int×List By}(h:Bm p s=some c):u32 c.1/\u32 c.2.1:=by
 unfold Bm at h;obtain⟨a,g,d⟩:=Option.bind_eq_some_iff.1 h;split at d
 ·cases d
 obtain⟨z,e,b⟩:=Option.bind_eq_some_iff.1 d;obtain⟨i,f⟩:=TJ e;split at b
 ·cases b;exact⟨wAv g,Nr f⟩
 cases b
theorem wYb{q:Ask}{v:Int}(h:wDa q=some v):u32 v:=by
 unfold wDa at h;split at h
 ·cases h;unfold u32;omega
 cases h
theorem wJq{q:Ask}{v:Int}(h:wCs q=some v):u32 v:=by
 unfold wCs at h;split at h
 ·exact wYb h
 cases h
theorem VP:∀(n:Nat){p:Po},Fh p []->Fh (DB n p) []
 |0,_,h=>h
 |n+1,p,h=>by
  rw[DB];split
  ·exact h
  rename_i q a;exact VP n (h.reap a)
section
variable{p o:Po}{q:Ask}{r:Rep}
theorem T7(h:Fh p [])(a:DQ p=some (o,r)):Fh o []:=by
 unfold DQ at a;obtain⟨g,e,d⟩:=Option.bind_eq_some_iff.1 a;obtain⟨f,c,b⟩:=Option.map_eq_some_iff.1 d;cases b;exact(h.create e).root (by have:=h.nx;unfold u32;omega) c
theorem PQ(h:Fh p [])(a:P0 p q=some (o,r)):Fh o []:=by
 unfold P0 at a;obtain⟨v,e,d⟩:=Option.bind_eq_some_iff.1 a;obtain⟨f,c,b⟩:=Option.map_eq_some_iff.1 d;cases b;exact h.snap (wJq e) c
theorem TR(h:Fh p [])(a:Ht p q=some (o,r)):Fh o []:=by
 unfold Ht at a;obtain⟨v,e,d⟩:=Option.bind_eq_some_iff.1 a;obtain⟨f,c,b⟩:=Option.map_eq_some_iff.1 d;cases b;exact h.freeze (wJq e) c
theorem Qm(h:Fh p [])(a:Fn p q=some (o,r)):Fh o []:=by
 unfold Fn at a;obtain⟨v,f,d⟩:=Option.bind_eq_some_iff.1 a;obtain⟨e,c,b⟩:=Option.map_eq_some_iff.1 d;cases b;exact h.delete c
theorem wQb(h:Fh p [])(a:Jd p q=some (o,r)):Fh o []:=by
 unfold Jd at a;obtain⟨c,b,g⟩:=Option.bind_eq_some_iff.1 a;obtain⟨d,f,e⟩:=Option.map_eq_some_iff.1 g;cases e;exact h.make (n:=d.2) (Dt b).1 (Dt b).2 f
theorem TT(h:Fh p [])(g:GW p q=some (o,r)):Fh o []:=by
 unfold GW at g;split at g
 ·obtain ⟨c,l,a⟩:=Option.bind_eq_some_iff.1 g;have i:=Z4 l;split at a
  ·obtain ⟨f,e,b⟩:=Option.map_eq_some_iff.1 a;cases b;exact h.write i.1 e
  split at a
  ·obtain ⟨f,e,b⟩:=Option.map_eq_some_iff.1 a;cases b;exact h
  split at a
  ·obtain ⟨f,e,b⟩:=Option.map_eq_some_iff.1 a;cases b;exact h.size i.1 e
  split at a
  ·obtain ⟨f,e,b⟩:=Option.map_eq_some_iff.1 a;cases b;exact h.punch i.1 e
  split at a
  ·cases a
  obtain⟨d,k,j⟩:=Option.bind_eq_some_iff.1 a;obtain⟨f,e,b⟩:=Option.map_eq_some_iff.1 j;cases b;exact h.shar (Z4 k).1 e
 cases g
theorem TQ(h:Fh p [])(e:NY p q=some (o,r)):Fh o []:=by
 unfold NY at e;obtain⟨c,k,b⟩:=Option.bind_eq_some_iff.1 e;split at b
 ·cases b
 obtain⟨d,f,a⟩:=Option.bind_eq_some_iff.1 b;split at a
 ·obtain ⟨j,i,g⟩:=Option.map_eq_some_iff.1 a;cases g;exact h.link (Dt f).1 (Dt f).2 i
 cases a
theorem NL(h:Fh p [])(b:EL p q=some (o,r)):Fh o []:=by
 unfold EL at b;obtain⟨c,k,a⟩:=Option.bind_eq_some_iff.1 b;split at a
 ·cases a
 obtain⟨d,f,e⟩:=Option.bind_eq_some_iff.1 a;obtain⟨j,i,g⟩:=Option.map_eq_some_iff.1 e;cases g;exact h.unlink (Dt f).1 i
theorem Nu(h:Fh p [])(b:F2 p q=some (o,r)):Fh o []:=by
 unfold F2 at b;obtain⟨c,k,a⟩:=Option.bind_eq_some_iff.1 b;split at a
 ·obtain ⟨d,f,e⟩:=Option.bind_eq_some_iff.1 a;obtain⟨j,i,g⟩:=Option.map_eq_some_iff.1 e;cases g;exact h.remove (Dt f).1 i
 cases a
theorem Qi(h:Fh p [])(i:Fm p q=some (o,r)):Fh o []:=by
 unfold Fm at i;obtain⟨c,y,s⟩:=Option.bind_eq_some_iff.1 i;obtain⟨d,j,m⟩:=Option.bind_eq_some_iff.1 s;obtain⟨e,l,b⟩:=Option.bind_eq_some_iff.1 m;split at b
 ·obtain ⟨w,k,n⟩:=Option.map_eq_some_iff.1 b;cases n;unfold VO at k;obtain⟨z,_,a⟩:=Option.bind_eq_some_iff.1 k;split at a
  ·obtain ⟨u,g,f⟩:=Option.bind_eq_some_iff.1 a;exact(h.take (Dt l).1 g).add (Dt j).1 (Dt j).2 f
  cases a
 cases b
theorem QB(h:Fh p [])(b:Kt p q=some (o,r)):Fh o []:=by
 unfold Kt at b;obtain⟨c,g,a⟩:=Option.bind_eq_some_iff.1 b;split at a
 ·obtain ⟨e,f,d⟩:=Option.map_eq_some_iff.1 a;cases d;exact h
 cases a
theorem Pl(h:Fh p [])(a:NP p q=some (o,r)):Fh o []:=by
 unfold NP at a;obtain⟨c,d,b⟩:=Option.map_eq_some_iff.1 a;cases b;exact h
theorem Qv(h:Fh p [])(a:Qb p q=some (o,r)):Fh o []:=by
 unfold Qb at a;split at a
 ·cases a;exact VP _ h
 cases a
theorem wXk(h:Fh p [])(n:Nat)(a:Us p q n=some (o,r)):Fh o []:=by
 unfold Us at a;split at a
 ·exact T7 h a
 ·exact PQ h a
 ·exact TR h a
 ·exact Qm h a
 ·exact wQb h a
 ·exact wQb h a
 ·exact TQ h a
 ·exact NL h a
 ·exact Qi h a
 ·exact Nu h a
 ·exact QB h a
 ·exact Pl h a
 ·exact Qv h a
 exact TT h a
end
theorem XC(X:Int->Prop)(p:Po)(x:V5)(M:Mem)(h:PW M x p)(S:Fh p [])(hT:Tabs M)(hK:Kinds M)(q:Ask)(hk:0<=q.kind/\q.kind<256)(hq:q.path.length<=1000000)(L:q.other.length<=1000000)(H:Value)(Q:BS M H q.data)(ag:q.data.length<=1000000)
  (ha:∀e:Int,e≠0->HQ q=false->(¬(1<=q.kind/\q.kind<19)->e=2)->X e)
  (hX:HQ q=true->∀M',MLe M M'->∀b,∃f,(Wr b)[q.kind.toNat]? =some (Qy b f)/\Dn prog f=true/\SpecL prog f #[pB b] M' [BI b x p.gen p.root p.next q H 0 AL AL AP] λu T U=>MeR (Us p q q.kind.toNat) q H b u T U/\∀e,u=.int .i64 e->e≠0->X e):
  SpecL prog 11 #[DH p x,.agg (JG q H).toArray] M [] λu M' U=>DoX X p q u M'/\U=[]:=by
 have C:=Q;obtain⟨da,I,rfl,ah,af⟩:=C;refine sB func11 ntmps11 ?_;intro W;refine ga4 λb2 b3 b4 b5=>?_;refine gh ?_;refine lh (Bt (cs:=clc x p.gen p.root p.next q (.slice da q.data.length I) 0 AL AL AP) rfl rfl rfl rfl) ?_;rintro _ _ _ ⟨m,rfl,rfl,rfl⟩;refine gc (VW q hk hq L (.slice da q.data.length I) M hT hK) ?_;rintro _ M1 w ⟨e,rfl,P,O⟩;refine gj (λd=>?_) λd=>?_
 ·have a:=P.1 d;have ae:1<=q.kind/\q.kind<19:=by
   unfold HQ at a;rw[Bool.and_eq_true]at a;exact of_decide_eq_true a.1
  have D:Jt p q=Us p q q.kind.toNat:=if_pos a;refine gg ?_;refine D7 [0,2,3,101,4,105,6] [(b3,cE (JG q (.slice da q.data.length I)) 39)] ?_;refine gh ?_;refine dh rfl (hC (ZT m M1)) ?_;rintro _ T _ ⟨s,R,rfl,rfl,rfl⟩;refine⟨s,by simp,?_⟩;obtain⟨f,hf,hgo,K⟩:=hX a T (w.trans s) m;refine gh ?_;refine dq rfl (Yu (v:=Qy m f) rfl rfl rfl rfl rfl (by omega) (by rw[Nat.mul_one];exact hf)) ?_;refine dh rfl (hC K (hgo:=hgo)) ?_;rintro _ M3 _ ⟨G,R,rfl,⟨y,g,r1,n,i,e,rd,rn,z,rfl,rfl,V⟩,J⟩;refine⟨G,by simp,?_⟩;have h3:=((h.mono w).mono s).mono G;refine gg ?_;refine gj (λc=>?_) λc=>?_
  ·refine gc (Le p x M3 h3 S) ?_;rintro _ Z l ⟨B,rfl,j⟩;refine gr ?_;exact⟨⟨B,p,Bp,e,AL,AL,rfl,j,BS.nil0,NaS.nil,.inr ⟨c,by rw[D];exact V.err c,rfl,rfl,J _ rfl c⟩⟩,rfl⟩
  obtain⟨rfl,⟨o,r⟩,Y,N,rfl,rfl,rfl,rfl,F,E,rfl⟩:=V.val c;obtain⟨ra,rc,rfl,ab,aa⟩:=_root_.id F;obtain⟨na,nc,rfl,ad,ac⟩:=_root_.id E;refine gh ?_;refine D7 [0,1,2,3,5,6,7,8,104,109,110] [BI m y o.gen o.root o.next q (.slice da q.data.length I) r.id (.slice ra r.data.length rc) (.slice na r.names.length nc) r.stat] ?_;refine gh ?_;refine dh rfl (hC (Le o y M3 N (wXk S _ Y))) ?_;rintro _ Z _ ⟨l,R,rfl,⟨B,rfl,j⟩,rfl⟩;refine⟨l,by simp,?_⟩;refine gg ?_;refine gr ?_;exact⟨⟨B,o,r,0,_,_,rfl,j,F.mono l,E.mono l,.inl ⟨rfl,by rw[D];exact Y⟩⟩,rfl⟩
 refine gj (λc=>?_) λc=>absurd d c;refine gc (Le p x M1 (h.mono w) S) ?_;rintro _ Z l ⟨B,rfl,j⟩;refine gr ?_;exact⟨⟨B,p,Bp,e,AL,AL,rfl,j,BS.nil0,NaS.nil,.inr ⟨d,if_neg λk=>d (P.2 k),rfl,rfl,ha e d (Bool.eq_false_iff.2 λk=>d (P.2 k)) O⟩⟩,rfl⟩
theorem wRu{q:Ask}(h:HQ q=true):1<=q.kind/\q.kind<19:=by
 unfold HQ at h;rw[Bool.and_eq_true]at h;exact of_decide_eq_true h.1
theorem Ki(p:Po)(x:V5)(M:Mem)(h:PW M x p)(l:Fh p [])(k:Tabs M)(n:Kinds M)(q:Ask)(hk:0<=q.kind/\q.kind<256)(j:q.path.length<=1000000)(a:q.other.length<=1000000)(g:Value)(c:BS M g q.data)(d:q.data.length<=1000000):
  SpecL prog 11 #[DH p x,.agg (JG q g).toArray] M [] λu M' y=>DoR p q u M'/\y=[]:=
 (XC (λ_=>True) p x M h l k n q hk j a g c d (λ_ _ _ _=>trivial) λm M' i b=>by
  obtain⟨f,w,s,o⟩:=wJb p x M' (h.mono i) l (k.mono i) q (wRu m) j a g (c.mono i) d b
  exact⟨f,w,s,o.mono λ_ _ _ e=>⟨e,λ_ _ _=>trivial⟩⟩).mono λ_ _ _ e=>⟨e.1.r,e.2⟩
theorem wQc{p o:Po}{q:Ask}{r:Rep}(h:Fh p [])(a:Jt p q=some (o,r)):Fh o []:=by
 unfold Jt at a;split at a
 ·exact wXk h _ a
 cases a
section
variable{P:Program}{ops:Array Oper}{N:Fs}{F:Fr}{E:Ent}{M:Mem}{L:Lc}{o:Oper}
theorem Sk{x g:Operand}{t e:TypeId}{a:Option Addr}{b off n c f d:Nat}{z:List Value}{k:IntKind}{i:Int}(s:gd ops F o=some true)(l:o.op=.indexAddr t x g)(j:ev F x=some (.slice a n c))(m:ev F g=some (.int k i))
  [w:Und P t (.slice e)] [y:Lay P e f d z] (u:a=some ⟨b,off,none⟩) (h:0<=i/\i<n):QF P ops N F M L o (.pointer (some ⟨b,off+i.toNat*f,none⟩)):=by
 subst u;exact EV s l j m h
end
def few(bs:List (List By))(ws:List Wt):Prop:=bs.length<=300/\ws.length<=5000/\(∀b∈bs,b.length<=800000)/\∀w∈ws,w.2.length<=800000
def wBg(s:Sto):Prop:=few s.blocks s.waits/\s.now.length<=10000/\s.last.length<=10000
variable{M:Mem}{a1:Option Addr}{bs:List (List By)}{k:Nat}{ps1:List (List By×Value)}
theorem wAr(i:SM M a1 (ps1.map (·.2)))(a:ps1.map (·.1)=bs)(l:∀p∈ps1,BS M p.2 p.1)(hk:k<bs.length):∃f d c b,a1=some ⟨f,d,none⟩/\CM M f (d+((k:Int)).toNat*1) (.slice c bs[k].length b)/\bs[k].length<=b/\SM M c (Aa bs[k]):=by
 obtain⟨f,d,o,m⟩:=i.open (by intro e;have:=congrArg length e;rw[length_map,length_nil]at this;have n:=congrArg length a;rw[length_map]at n;omega);obtain⟨c,b,j,h,g⟩:=CX m a l hk;exact⟨f,d,c,b,o,by rw[Int.toNat_natCast];exact j,h,g⟩
variable{a2:Option Addr}{ps2:List (Wt×Value)}{ws:List Wt}
theorem Wv(l:SM M a2 (ps2.flatMap AZ))(a:ps2.map (·.1)=ws)(n:∀p∈ps2,BS M p.2 p.1.2)(hk:k<ws.length):∃f d c b,a2=some ⟨f,d,none⟩/\(∀i v,(wXy ws[k] c b)[i]? =some v->CM M f (d+((k:Int)).toNat*2+i) v)/\ws[k].2.length<=b/\SM M c (Aa ws[k].2):=by
 obtain⟨f,d,u,o⟩:=l.open (by intro e;have:=congrArg length e;rw[Aj AZ 2 BX,length_nil]at this;have s:=congrArg length a;rw[length_map]at s;omega);obtain⟨c,b,m,j,g⟩:=JI o a n hk;exact⟨f,d,c,b,u,λi v h=>by rw[Int.toNat_natCast];exact m i v h,j,g⟩
theorem J5(s o:Option Addr)(y w:Nat)(xs a:List Int)(M:Mem)(D:SM M s (Al xs))(C:SM M o (Al a))(K:xs.length<=1000000)(G:a.length<=1000000):
  SpecL prog 21 #[.slice s xs.length y,.slice o a.length w] M [] λu _ _=>u=.bool (decide (xs=a)):=by
 refine DX (vs:=[_,_]) 26 _ func21 rfl ntmps21 rfl rfl ?_;intro W;refine Ah (Af ?_);refine jp rfl ?_;refine Ai (jT (Ah (Ah (Af ?_))));refine jp rfl ?_;refine A2 rfl rfl (FY rfl rfl rfl) ?_;refine jp rfl ?_;refine A2 rfl rfl (FY rfl rfl rfl) ?_;refine js rfl (λl=>?_) (λl=>?_)
 ·refine Ai (jT (EF rfl (Ah (Af ?_))));refine jp rfl ?_;refine Ai (jT (Bq (wJh ?_)));refine FX rfl rfl ?_;rw[decide_eq_false (λe:xs=a=>by subst e;omega)]
 refine Ai (jT (DM rfl (Co (jT (Ah (Ah (Af ?_)))))));refine jp rfl ?_;refine Ai (jT (Dm ?_));refine LW (α:=Nat) (λk=>[(0,.slice s xs.length y),(1,.slice o a.length w),(5,.int .i64 k)]) (λ_=>M) (λ_=>[]) (λk=>k<=xs.length/\xs.take k=a.take k) (λk=>xs.length-k)
  0 (Keep.cons (t:=0) rfl (Keep.cons (t:=1) rfl (Keep.cons (t:=5) rfl Keep.nil))) ⟨Nat.zero_le _,rfl⟩ (λ_ h=>h) ?_
 rintro k ⟨H,b⟩;try dsimp only at H b⊢
 refine Ah (Ah (Af ?_));iterate 2 refine jp rfl ?_
 refine A2 rfl rfl (FY rfl rfl rfl) ?_;refine js rfl (λj=>?_) (λj=>?_)
 ·refine Ai (jT (EF rfl (Co (jT (Ah (Dm (Ah ?_)))))));refine LX [(0,true),(1,true),(2,true),(3,true),(4,true),(5,true),(6,true),(7,true),(8,true)] [] (by kernel_rfl) (by kernel_rfl) (by kernel_rfl) rfl (by simp) ?_;iterate 2 refine dp rfl rfl ?_
  have d:k<xs.length:=by omega
  have c:k<a.length:=by omega
  obtain⟨J,F,n,B⟩:=D.open (by intro e;have:=congrArg length e;simp[Al]at this;rw[this]at d;simp at d);obtain⟨I,E,m,z⟩:=C.open (by intro e;have:=congrArg length e;simp[Al]at this;rw[this]at c;simp at c);subst n;subst m;have g:CM M J (F+(k:Int).toNat*1) (.int .i64 xs[k]):=by rw[Int.toNat_natCast,Nat.mul_one];exact B k _ (by simp[Al,d])
  have f:CM M I (E+(k:Int).toNat*1) (.int .i64 a[k]):=by rw[Int.toNat_natCast,Nat.mul_one];exact z k _ (by simp[Al,c])
  refine Ch rfl rfl rfl (EV rfl rfl rfl rfl (by omega)) ?_;refine Ch rfl rfl rfl (Au rfl rfl rfl rfl (g.cj _)) ?_;iterate 2 refine dp rfl rfl ?_
  refine Ch rfl rfl rfl (EV rfl rfl rfl rfl (by omega)) ?_;refine Ch rfl rfl rfl (Au rfl rfl rfl rfl (f.cj _)) ?_;refine ds rfl rfl (λi=>?_) (λi=>?_)
  ·refine Nm (wGh (jT (EF rfl (Ah (Af ?_)))));refine jp rfl ?_;refine Ai (jT (Bq (jBr (wJh (wJh (jBr (wJh ?_)))))));refine FX rfl rfl ?_;rw[decide_eq_false (λe:xs=a=>by subst e;omega)]
  refine Nm (wGh (jT (DM rfl (Co (jB (jT (Af ?_)))))));refine jp rfl ?_;refine ja rfl (by omega) ?_;refine jp rfl ?_;refine Ai ?_;refine Hp (k+1) (Keep.cons (t:=0) rfl (Keep.cons (t:=1) rfl (Keep.cons (t:=5) rfl Keep.nil))) ⟨by omega,by rw[List.take_succ_eq_append_getElem d,List.take_succ_eq_append_getElem c,b,show xs[k]=a[k]by omega]⟩ (by omega) (λ_ h=>h)
 refine Ai (jT (DM rfl (Gi (wBo (wBo (wXd (jT (Ah (Af ?_)))))))));refine jp rfl ?_;refine Ai (jT (Bq ?_));refine FX rfl rfl ?_;have n:k=xs.length:=by omega
 have m:a.length=xs.length:=by omega
 subst n;rw[take_length,<-m,take_length]at b;rw[decide_eq_true b]
theorem UW(bs:List (List By))(a:List Wt)(D:Option Addr)(s:Nat)(i:List (List By×Value))(C:Option Addr)(o:Nat)(g:List (Wt×Value))(M:Mem)(ad:bs.length<=s)(K:SM M D (i.map (·.2)))(P:i.map (·.1)=bs)(V:∀p∈i,BS M p.2 p.1)(ac:a.length<=o)(J:SM M C (g.flatMap AZ))(O:g.map (·.1)=a)(U:∀p∈g,BS M p.2 p.1.2)(B:Option Addr)(n:Nat)(f:List (List By×Value))(z:Option Addr)(m:Nat)(e:List (Wt×Value))(ab:bs.length<=n)(I:SM M B (f.map (·.2)))(N:f.map (·.1)=bs)(T:∀p∈f,BS M p.2 p.1)(aa:a.length<=m)(H:SM M z (e.flatMap AZ))(L:e.map (·.1)=a)(S:∀p∈e,BS M p.2 p.1.2)(hf:few bs a):
  SpecL prog 46 #[.agg #[.slice D bs.length s,.slice C a.length o],.agg #[.slice B bs.length n,.slice z a.length m]] M [] λu _ L'=>u=.bool true/\L'=[]:=by
 obtain⟨f1,f2,f3,f4⟩:=hf;refine DX (vs:=[_,_]) 80 _ func46 rfl ntmps46 rfl rfl ?_;intro W;refine Ah (Af ?_);refine Ee rfl rfl (Bt (cs:=[_,_]) rfl rfl rfl rfl) ?_;rintro _ _ _ ⟨y,rfl,rfl,rfl⟩;refine Ee rfl rfl (Bt (cs:=[_,_]) rfl rfl rfl rfl) ?_;rintro _ _ _ ⟨w,rfl,rfl,rfl⟩;refine jp rfl ?_;refine Ai (jT (Ah (Ah (Af ?_))));refine A2 rfl rfl (Ac rfl rfl rfl rfl rfl) ?_;refine A2 rfl rfl (Au rfl rfl rfl rfl (CJ.loc rfl)) ?_;refine A2 rfl rfl (FY rfl rfl rfl) ?_;refine A2 rfl rfl (Ac rfl rfl rfl rfl rfl) ?_;refine A2 rfl rfl (Au rfl rfl rfl rfl (CJ.loc rfl)) ?_;refine A2 rfl rfl (FY rfl rfl rfl) ?_;refine jf rfl (decide_eq_false (by omega)) ?_;refine jp rfl ?_;refine A2 rfl rfl (Ac rfl rfl rfl rfl rfl) ?_;refine A2 rfl rfl (Au rfl rfl rfl rfl (CJ.loc rfl)) ?_;refine A2 rfl rfl (FY rfl rfl rfl) ?_;refine A2 rfl rfl (Ac rfl rfl rfl rfl rfl) ?_;refine A2 rfl rfl (Au rfl rfl rfl rfl (CJ.loc rfl)) ?_;refine A2 rfl rfl (FY rfl rfl rfl) ?_;refine jf rfl (decide_eq_false (by omega)) ?_;refine jp rfl ?_;refine Ai (jT (DM rfl (Co (jT (Ah (Ah (Af ?_)))))));refine jp rfl ?_;refine Ai (jT (Dm ?_));refine LW (α:=Nat) (λk=>[(2,pB y),(3,pB w),(5,.int .i64 k)]) (λ_=>M) (λ_=>[(w,cE [Value.slice B bs.length n,.slice z a.length m] 25),(y,cE [.slice D bs.length s,.slice C a.length o] 25)]) (λk=>k<=bs.length) (λk=>bs.length-k)
  0 (Keep.cons (t:=2) rfl (Keep.cons (t:=3) rfl (Keep.cons (t:=5) rfl Keep.nil))) (Nat.zero_le _) (λ_ h=>h) ?_
 rintro k Q;try dsimp only at Q⊢
 refine Ah (Ah (Af ?_));refine jp rfl ?_;refine A2 rfl rfl (Ac rfl rfl rfl rfl rfl) ?_;refine A2 rfl rfl (Au rfl rfl rfl rfl (CJ.loc rfl)) ?_;refine A2 rfl rfl (FY rfl rfl rfl) ?_;refine js rfl (λY=>?_) (λY=>?_)
 ·refine Ai (jT (EF rfl (Co (jT (Ah (Dm (Ah ?_)))))));refine LX [(0,true),(1,true),(2,true),(3,true),(4,true),(5,true),(6,true),(7,true),(8,true),(9,true),(10,true),(11,true),(12,true)] [(w,cE [Value.slice B bs.length n,.slice z a.length m] 25),(y,cE [.slice D bs.length s,.slice C a.length o] 25)] (by kernel_rfl) (by kernel_rfl) (by kernel_rfl) rfl (by simp) ?_;refine Ch rfl rfl rfl (Ac rfl rfl rfl rfl rfl) ?_;refine Ch rfl rfl rfl (Au rfl rfl rfl rfl (CJ.loc rfl)) ?_;refine dp rfl rfl ?_;have c:k<bs.length:=by omega
  have R:=f3 _ (getElem_mem c);obtain⟨sb,so,va,vc,F,d,G,j⟩:=wAr K P V c;obtain⟨tb,to,wa,wc,E,gcl,Z,l⟩:=wAr I N T c;refine Ch rfl rfl rfl (Sk rfl rfl rfl rfl F (by omega)) ?_;refine Ch rfl rfl rfl (Au rfl rfl rfl rfl (d.cj _)) ?_;refine Ch rfl rfl rfl (Bh (Qd (xs:=bs[k].map λb=>(b.toNat:Int)) rfl rfl rfl (by simp) (by simpa [Aa,map_map,Function.comp_def]using j.sj _)) (v':=.string (AD bs[k])) (by rw[BT])) ?_;refine Ch rfl rfl rfl (Ac rfl rfl rfl rfl rfl) ?_;refine Ch rfl rfl rfl (Au rfl rfl rfl rfl (CJ.loc rfl)) ?_;refine dp rfl rfl ?_;refine Ch rfl rfl rfl (Sk rfl rfl rfl rfl E (by omega)) ?_;refine Ch rfl rfl rfl (Au rfl rfl rfl rfl (gcl.cj _)) ?_;refine Ch rfl rfl rfl (Bh (Qd (xs:=bs[k].map λb=>(b.toNat:Int)) rfl rfl rfl (by simp) (by simpa [Aa,map_map,Function.comp_def]using l.sj _)) (v':=.string (AD bs[k])) (by rw[BT])) ?_;refine Ch rfl rfl rfl (Bh (qP rfl rfl) (v':=.bool false) (by rw[Lu];simp)) ?_;refine Nm (wGh (jT (DM rfl (Co (jB (jT (Af ?_)))))));refine jp rfl ?_;refine ja rfl (by omega) ?_;refine jp rfl ?_;refine Ai ?_;refine Hp (k+1) (Keep.cons (t:=2) rfl (Keep.cons (t:=3) rfl (Keep.cons (t:=5) rfl Keep.nil))) (by show k+1<=bs.length;omega) (by show bs.length-(k+1)<bs.length-k;omega) (λ_ h=>h)
 refine Ai (jT (DM rfl (Gi (wBo (wBo (wXd (jT (Ah (Ah (Af ?_))))))))));refine jp rfl ?_;refine Ai (jT (Dm ?_));refine LW (α:=Nat) (λk=>[(2,pB y),(3,pB w),(6,.int .i64 k)]) (λ_=>M) (λ_=>[(w,cE [Value.slice B bs.length n,.slice z a.length m] 25),(y,cE [.slice D bs.length s,.slice C a.length o] 25)]) (λk=>k<=a.length) (λk=>a.length-k)
  0 (Keep.cons (t:=2) rfl (Keep.cons (t:=3) rfl (Keep.cons (t:=6) rfl Keep.nil))) (Nat.zero_le _) (λ_ h=>h) ?_
 rintro k Q;try dsimp only at Q⊢
 refine Ah (Ah (Af ?_));refine jp rfl ?_;refine A2 rfl rfl (Ac rfl rfl rfl rfl rfl) ?_;refine A2 rfl rfl (Au rfl rfl rfl rfl (CJ.loc rfl)) ?_;refine A2 rfl rfl (FY rfl rfl rfl) ?_;refine js rfl (λX=>?_) (λX=>?_)
 ·refine Ai (jT (EF rfl (Co (jT (Ah (Dm (Ah ?_)))))));refine LX [(0,true),(1,true),(2,true),(3,true),(4,true),(5,true),(6,true),(7,true),(8,true),(9,true),(10,true),(11,true),(12,true),(13,true),(14,true),(15,true),(16,true),(17,true),(18,true),(19,true),(20,true),(21,true),(22,true),(23,true),(24,true),(25,true),(26,true),(27,true),(28,true),(29,true)] [(w,cE [Value.slice B bs.length n,.slice z a.length m] 25),(y,cE [.slice D bs.length s,.slice C a.length o] 25)] (by kernel_rfl) (by kernel_rfl) (by kernel_rfl) rfl (by simp) ?_;refine Ch rfl rfl rfl (Ac rfl rfl rfl rfl rfl) ?_;refine Ch rfl rfl rfl (Au rfl rfl rfl rfl (CJ.loc rfl)) ?_;refine dp rfl rfl ?_;have c:k<a.length:=by omega
  obtain⟨sb,so,va,vc,F,d,G,j⟩:=Wv J O U c;obtain⟨tb,to,wa,wc,E,gcl,Z,l⟩:=Wv H L S c;have R:=f4 _ (getElem_mem c);refine Ch rfl rfl rfl (Sk rfl rfl rfl rfl F (by omega)) ?_;refine Ch rfl rfl rfl (Ac rfl rfl rfl rfl rfl) ?_;refine Ch rfl rfl rfl (Au rfl rfl rfl rfl ((d 0 _ rfl).cj _)) ?_;refine Ch rfl rfl rfl (Ac rfl rfl rfl rfl rfl) ?_;refine Ch rfl rfl rfl (Au rfl rfl rfl rfl (CJ.loc rfl)) ?_;refine dp rfl rfl ?_;refine Ch rfl rfl rfl (Sk rfl rfl rfl rfl E (by omega)) ?_;refine Ch rfl rfl rfl (Ac rfl rfl rfl rfl rfl) ?_;refine Ch rfl rfl rfl (Au rfl rfl rfl rfl ((gcl 0 _ rfl).cj _)) ?_;refine df rfl rfl (decide_eq_false (by omega)) ?_;refine dp rfl rfl ?_;refine Ch rfl rfl rfl (Ac rfl rfl rfl rfl rfl) ?_;refine Ch rfl rfl rfl (Au rfl rfl rfl rfl (CJ.loc rfl)) ?_;refine dp rfl rfl ?_;refine Ch rfl rfl rfl (Sk rfl rfl rfl rfl F (by omega)) ?_;refine Ch rfl rfl rfl (Ac rfl rfl rfl rfl rfl) ?_;refine Ch rfl rfl rfl (Au rfl rfl rfl rfl ((d 1 _ rfl).cj _)) ?_;refine Ch rfl rfl rfl (Bh (Qd (xs:=a[k].2.map λb=>(b.toNat:Int)) rfl rfl rfl (by simp) (by simpa [Aa,map_map,Function.comp_def]using j.sj _)) (v':=.string (AD a[k].2)) (by rw[BT])) ?_;refine Ch rfl rfl rfl (Ac rfl rfl rfl rfl rfl) ?_;refine Ch rfl rfl rfl (Au rfl rfl rfl rfl (CJ.loc rfl)) ?_;refine dp rfl rfl ?_;refine Ch rfl rfl rfl (Sk rfl rfl rfl rfl E (by omega)) ?_;refine Ch rfl rfl rfl (Ac rfl rfl rfl rfl rfl) ?_;refine Ch rfl rfl rfl (Au rfl rfl rfl rfl ((gcl 1 _ rfl).cj _)) ?_;refine Ch rfl rfl rfl (Bh (Qd (xs:=a[k].2.map λb=>(b.toNat:Int)) rfl rfl rfl (by simp) (by simpa [Aa,map_map,Function.comp_def]using l.sj _)) (v':=.string (AD a[k].2)) (by rw[BT])) ?_;refine Ch rfl rfl rfl (Bh (qP rfl rfl) (v':=.bool false) (by rw[Lu];simp)) ?_;refine dp rfl rfl ?_;refine Nm (wGh (jT (DM rfl (Co (jB (jT (Af ?_)))))));refine jp rfl ?_;refine ja rfl (by omega) ?_;refine jp rfl ?_;refine Ai ?_;refine Hp (k+1) (Keep.cons (t:=2) rfl (Keep.cons (t:=3) rfl (Keep.cons (t:=6) rfl Keep.nil))) (by show k+1<=a.length;omega) (by show a.length-(k+1)<a.length-k;omega) (λ_ h=>h)
 refine Ai (jT (DM rfl (Gi (wBo (wBo (wXd (jT (Ah (Af ?_)))))))));refine jp rfl ?_;refine Ai (jT (Bq ?_));refine AB (L':=[]) (List.nil_sublist _) ?_;refine FX rfl rfl ?_;exact⟨rfl,rfl⟩
theorem UX(bs:List (List By))(a:List Wt)(u v C B:Value)(M:Mem)(H:LS M u bs)(G:WS M v a)(F:LS M C bs)(E:WS M B a)(D:few bs a):SpecL prog 46 #[.agg #[u,v],.agg #[C,B]] M [] λu _ O=>u=.bool true/\O=[]:=by
 obtain⟨a1,c1,ps1,rfl,o,g,k,z⟩:=H;obtain⟨a2,K,ps2,rfl,n,f,j,y⟩:=G;obtain⟨N,J,c,rfl,m,e,i,w⟩:=F;obtain⟨L,I,b,rfl,l,d,h,s⟩:=E;exact UW bs a a1 c1 ps1 a2 K ps2 M o g k z n f j y N J c L I b m e i w l d h s D
theorem UT(s:Sto)(j g:Value)(k l:Option Addr)(m n:Nat)(d c:Value)(e f:Option Addr)(h i:Nat)(M:Mem)(B:LS M j s.blocks)(z:WS M g s.waits)(y:SM M k (Aa s.now))(w:SM M l (Aa s.last))(F:LS M d s.blocks)(E:WS M c s.waits)(D:SM M e (Aa s.now))(C:SM M f (Aa s.last))(o:wBg s):
  SpecL prog 20 #[.agg #[j,g,.slice k s.now.length m,.slice l s.last.length n],.agg #[d,c,.slice e s.now.length h,.slice f s.last.length i]] M [] λu _ L'=>u=.bool true/\L'=[]:=by
 obtain⟨G,I,H⟩:=o;refine DX (vs:=[_,_]) 28 _ func20 rfl ntmps20 rfl rfl ?_;intro W;refine Ah (Af ?_);refine Ee rfl rfl (Bt (cs:=[_,_,_,_]) rfl rfl rfl rfl) ?_;rintro _ _ _ ⟨K,rfl,rfl,rfl⟩;refine Ee rfl rfl (Bt (cs:=[_,_,_,_]) rfl rfl rfl rfl) ?_;rintro _ _ _ ⟨J,rfl,rfl,rfl⟩;refine jp rfl ?_;refine Ai (jT (Ah (Af ?_)));refine A2 rfl rfl (Ac rfl rfl rfl rfl rfl) ?_;refine A2 rfl rfl (HO rfl rfl rfl rfl rfl) ?_;refine A2 rfl rfl (Ac rfl rfl rfl rfl rfl) ?_;refine A2 rfl rfl (HO rfl rfl rfl rfl rfl) ?_;refine Ee rfl rfl (BV rfl rfl rfl rfl rfl (by kernel_rfl) (UX s.blocks s.waits j g d c M B z F E G)) ?_;rintro _ L _ ⟨a,_,rfl,⟨rfl,rfl⟩⟩;refine jp rfl ?_;refine A2 rfl rfl (Ac rfl rfl rfl rfl rfl) ?_;refine A2 rfl rfl (Au rfl rfl rfl rfl (CJ.loc rfl)) ?_;refine A2 rfl rfl (Bh (Qd (xs:=s.now.map λb=>(b.toNat:Int)) rfl rfl rfl (by simp) (by simpa [Aa,map_map,Function.comp_def]using (y.mono a).sj _)) (v':=.string (AD s.now)) (by rw[BT])) ?_;refine A2 rfl rfl (Ac rfl rfl rfl rfl rfl) ?_;refine A2 rfl rfl (Au rfl rfl rfl rfl (CJ.loc rfl)) ?_;refine A2 rfl rfl (Bh (Qd (xs:=s.now.map λb=>(b.toNat:Int)) rfl rfl rfl (by simp) (by simpa [Aa,map_map,Function.comp_def]using (D.mono a).sj _)) (v':=.string (AD s.now)) (by rw[BT])) ?_;refine A2 rfl rfl (Bh (qP rfl rfl) (v':=.bool true) (by rw[Lu];simp)) ?_;iterate 2 refine jp rfl ?_
 refine A2 rfl rfl (Ac rfl rfl rfl rfl rfl) ?_;refine A2 rfl rfl (Au rfl rfl rfl rfl (CJ.loc rfl)) ?_;refine A2 rfl rfl (Bh (Qd (xs:=s.last.map λb=>(b.toNat:Int)) rfl rfl rfl (by simp) (by simpa [Aa,map_map,Function.comp_def]using (w.mono a).sj _)) (v':=.string (AD s.last)) (by rw[BT])) ?_;refine A2 rfl rfl (Ac rfl rfl rfl rfl rfl) ?_;refine A2 rfl rfl (Au rfl rfl rfl rfl (CJ.loc rfl)) ?_;refine A2 rfl rfl (Bh (Qd (xs:=s.last.map λb=>(b.toNat:Int)) rfl rfl rfl (by simp) (by simpa [Aa,map_map,Function.comp_def]using (C.mono a).sj _)) (v':=.string (AD s.last)) (by rw[BT])) ?_;refine A2 rfl rfl (Bh (qP rfl rfl) (v':=.bool true) (by rw[Lu];simp)) ?_;iterate 2 refine jp rfl ?_
 refine Ai (jT (Bq ?_));refine AB (L':=[]) (List.nil_sublist _) ?_;refine FX rfl rfl ?_;exact⟨rfl,rfl⟩
theorem UV(s:Sto)(u v:Value)(M:Mem)(G:ST M u s)(F:ST M v s)(E:wBg s):SpecL prog 20 #[u,v] M [] λu _ I=>u=.bool true/\I=[]:=by
 obtain⟨b,w,n,l,rfl,D,C,⟨h,g,rfl,_,B⟩,⟨y,o,rfl,_,z⟩⟩:=G.ex;obtain⟨H,f,J,K,rfl,m,k,⟨c,a,rfl,_,j⟩,⟨e,d,rfl,_,i⟩⟩:=F.ex;exact UT s b w h y g o H f c e a d M D C B z m k j i E
theorem UU(s:Sto)(u v:Value)(M:Mem)(c:ST M u s)(b:ST M v s)(a:wBg s):SpecL prog 20 #[u,v] M [] λu _ _=>u=.bool true:=(UV s u v M c b a).mono λ_ _ _ h=>h.1
def fewP(p:Po):Prop:=wBg p.st/\p.dead.length<=1000
variable{c1:Nat}{xs:List Int}
theorem XJ{b:Nat}(d:SM M a1 (Al xs))(c:SM M a2 (Al xs))(a:xs.length<=1000000):SpecL prog 21 #[.slice a1 xs.length c1,.slice a2 xs.length b] M [] λu _ _=>u=.bool true:=by
 have h:=J5 a1 a2 c1 b xs xs M d c a a;rw[decide_eq_true (rfl:xs=xs)]at h;exact h
theorem Sm(p:Po)(l i j k e a b c:Value)(da d:Option Addr)(w h:Nat)(M:Mem)(o:ST M (.agg #[l,i,j,k]) p.st)(n:SM M da (Al p.dead))(g:ST M (.agg #[e,a,b,c]) p.st)(f:SM M d (Al p.dead))(m:fewP p):
  SpecL prog 13 #[.agg #[l,i,j,k,.int .u32 p.gen,.int .i64 p.root,.int .u32 p.next,.slice da p.dead.length w],.agg #[e,a,b,c,.int .u32 p.gen,.int .i64 p.root,.int .u32 p.next,.slice d p.dead.length h]] M [] λu _ _=>u=.bool true:=by
 obtain⟨s,y⟩:=m;refine DX (vs:=[_,_]) 38 _ func13 rfl ntmps13 rfl rfl ?_;intro W;refine Ah (Af ?_);refine Ee rfl rfl (Bt (cs:=[_,_,_,_,_,_,_,_]) rfl rfl rfl rfl) ?_;rintro _ _ _ ⟨B,rfl,rfl,rfl⟩;refine Ee rfl rfl (Bt (cs:=[_,_,_,_,_,_,_,_]) rfl rfl rfl rfl) ?_;rintro _ _ _ ⟨z,rfl,rfl,rfl⟩;refine jp rfl ?_;refine Ai (jT (Ah (Af ?_)));refine A2 rfl rfl (Ac rfl rfl rfl rfl rfl) ?_;refine A2 rfl rfl (HO rfl rfl rfl rfl rfl) ?_;refine A2 rfl rfl (Ac rfl rfl rfl rfl rfl) ?_;refine A2 rfl rfl (HO rfl rfl rfl rfl rfl) ?_;refine A2 rfl rfl (CZ rfl rfl rfl rfl rfl (by kernel_rfl) (UU p.st _ _ M o g s)) ?_;refine jp rfl ?_;refine A2 rfl rfl (Ac rfl rfl rfl rfl rfl) ?_;refine A2 rfl rfl (Au rfl rfl rfl rfl (CJ.loc rfl)) ?_;refine A2 rfl rfl (Ac rfl rfl rfl rfl rfl) ?_;refine A2 rfl rfl (Au rfl rfl rfl rfl (CJ.loc rfl)) ?_;refine A2 rfl rfl (Bh (qP rfl rfl) (v':=.bool true) (by simp)) ?_;iterate 2 refine jp rfl ?_
 refine A2 rfl rfl (Ac rfl rfl rfl rfl rfl) ?_;refine A2 rfl rfl (Au rfl rfl rfl rfl (CJ.loc rfl)) ?_;refine A2 rfl rfl (Ac rfl rfl rfl rfl rfl) ?_;refine A2 rfl rfl (Au rfl rfl rfl rfl (CJ.loc rfl)) ?_;refine A2 rfl rfl (Bh (qP rfl rfl) (v':=.bool true) (by simp)) ?_;iterate 2 refine jp rfl ?_
 refine A2 rfl rfl (Ac rfl rfl rfl rfl rfl) ?_;refine A2 rfl rfl (Au rfl rfl rfl rfl (CJ.loc rfl)) ?_;refine A2 rfl rfl (Ac rfl rfl rfl rfl rfl) ?_;refine A2 rfl rfl (Au rfl rfl rfl rfl (CJ.loc rfl)) ?_;refine A2 rfl rfl (Bh (qP rfl rfl) (v':=.bool true) (by simp)) ?_;iterate 2 refine jp rfl ?_
 refine A2 rfl rfl (Ac rfl rfl rfl rfl rfl) ?_;refine A2 rfl rfl (Au rfl rfl rfl rfl (CJ.loc rfl)) ?_;refine A2 rfl rfl (Ac rfl rfl rfl rfl rfl) ?_;refine A2 rfl rfl (Au rfl rfl rfl rfl (CJ.loc rfl)) ?_;refine A2 rfl rfl (CZ rfl rfl rfl rfl rfl (by kernel_rfl) (XJ n f (by omega))) ?_;iterate 2 refine jp rfl ?_
 refine Ai (jT (Bq ?_));refine FX rfl rfl ?_;rfl
abbrev TI:=Ask×Value
def Lm(x:TI):List Value:=JG x.1 x.2
theorem Ft(x:TI):(Lm x).length=7:=rfl
structure AkS(M:Mem)(a:Option Addr)(l:List TI):Prop where
 sm:SM M a (l.flatMap Lm)
 bs:∀x∈l,BS M x.2 x.1.data
 kd:∀x∈l,0<=x.1.kind/\x.1.kind<256
variable{M M':Mem}{a:Option Addr}{l:List TI}
theorem AkS.mono(h:AkS M a l)(b:MLe M M'):AkS M' a l:=⟨h.sm.mono b,λx c=>(h.bs x c).mono b,h.kd⟩
def mnI(n:Nat):Int:=min (n:Int) 100000
def Pn(q:Ask):Int:=mnI q.data.length+mnI q.path.length+mnI q.other.length
structure GeI where
 k:Nat
 n:Int
theorem Q0(l:List TI)(a:Option Addr)(c:Nat)(b:Nat)(M:Mem)(h:AkS M a l)(X:l.length<=4611686018427387903)(V:b<=100):
  SpecL prog 9 #[.slice a l.length c,.int .i64 b] M [] λu M' S=>(∃g:Bool,u=.bool g/\(g=false->l.length<=b/\∀x∈l,Pn x.1<=30000))/\S=[]:=by
 refine sB func9 ntmps9 ?_;intro W;refine gg ?_;refine CC (α:=GeI) (λz=>[(0,.slice a l.length c),(1,.int .i64 b),(5,.int .i64 z.n),(6,.int .i64 z.k)]) (λ_=>M) (λ_=>[]) (λz=>z.k<=l.length/\z.k<=100/\0<=z.n/\z.n<=300000*z.k/\∀i (B:i<l.length),i<z.k->Pn l[i].1<=z.n) (λz=>l.length-z.k) ⟨0,0⟩ ⟨Nat.zero_le _,Nat.zero_le _,by decide,by simp,λ_ _ h=>absurd h (Nat.not_lt_zero _)⟩ ?_;rintro⟨k,n⟩ ⟨N,m,H,G,f⟩;try dsimp only at N m H G f⊢
 have done:k=l.length\/k=100->∀g:Bool,g=(decide ((b:Int)<l.length)||decide (30000<n))->(g=false->l.length<=b/\∀x∈l,Pn x.1<=30000):=λL g e I=>by
  rw[e,Bool.or_eq_false_iff]at I;have J:=of_decide_eq_false I.1;have P:=of_decide_eq_false I.2;have K:k=l.length:=by omega
  refine⟨by omega,λx F=>?_⟩;obtain⟨i,B,rfl⟩:=List.getElem_of_mem F;have:=f i B (by omega);omega
 refine gg ?_;by_cases J:k<l.length
 ·have y:(k:Int)<l.length:=by omega
  refine gj (λ_=>?_) λh=>absurd y h;by_cases P:k<100
  ·have w:(k:Int)<100:=by omega
   refine gj (λ_=>?_) λh=>absurd w h;obtain⟨U,T,Q,F⟩:=h.sm.open (by intro e;have:=congrArg length e;rw[Aj Lm 7 Ft,length_nil]at this;omega);cases Q;have j:=Bs Lm 7 Ft F (List.getElem?_eq_getElem J);obtain⟨da,Y,o,D,C⟩:=h.bs l[k] (getElem_mem J);have E:Pn l[k].1<=300000/\0<=Pn l[k].1:=by unfold Pn mnI;omega
   have d:∀i (B:i<l.length),i<k+1->Pn l[i].1<=n+Pn l[k].1:=λi B O=>by
    by_cases e:i=k
    ·subst e;omega
    have:=f i B (by omega);omega
   generalize l[k]=R at j o D C E d;obtain⟨q,dv⟩:=R;dsimp only at o D C E d;subst o;refine gg ?_;refine D7 [0,1,2,3,4,5,6,7,8,9,10,11,12,13,14,15,16,17,18,19,20,21,22,23,24,25] [] ?_;refine gg ?_;refine dq rfl (Au rfl rfl rfl rfl ((j 6 _ rfl).cj _)) ?_;refine gg ?_;refine dq rfl (VY rfl rfl rfl rfl) ?_;refine gg ?_;refine dq rfl (Au rfl rfl rfl rfl ((j 1 _ rfl).cj _)) ?_;refine dq rfl (SR rfl rfl rfl) ?_;refine dq rfl (VY rfl rfl rfl rfl) ?_;refine dq rfl (wTr rfl rfl rfl rfl rfl (by rw[IntKind.wrap_i64];dsimp only;omega)) ?_;refine gg ?_;refine dq rfl (Au rfl rfl rfl rfl ((j 2 _ rfl).cj _)) ?_;refine dq rfl (SR rfl rfl rfl) ?_;refine dq rfl (VY rfl rfl rfl rfl) ?_;refine dq rfl (wTr rfl rfl rfl rfl rfl (by rw[IntKind.wrap_i64];dsimp only;omega)) ?_;refine dq rfl (wTr rfl rfl rfl rfl rfl (by rw[IntKind.wrap_i64];dsimp only;omega)) ?_;refine gg ?_;refine BD ⟨k+1,_⟩ ⟨by show k+1<=l.length;omega,by show k+1<=100;omega,?_,?_,d⟩
   ·show 0<=n+Pn q;omega
   show n+Pn q<=300000*((k+1:Nat):Int);omega
  have w:¬(k:Int)<100:=by omega
  refine gj (λh=>absurd h w) λ_=>?_;by_cases s:(b:Int)<l.length
  ·refine gj (λ_=>?_) λh=>absurd s h;refine gr ?_;exact⟨⟨true,rfl,λh=>by cases h⟩,rfl⟩
  refine gj (λh=>absurd h s) λ_=>?_;refine gr ?_;exact⟨⟨_,rfl,done (.inr (by omega)) _ (by rw[decide_eq_false s];rfl)⟩,rfl⟩
 have y:¬(k:Int)<l.length:=by omega
 refine gj (λh=>absurd h y) λ_=>?_;by_cases s:(b:Int)<l.length
 ·refine gj (λ_=>?_) λh=>absurd s h;refine gr ?_;exact⟨⟨true,rfl,λh=>by cases h⟩,rfl⟩
 refine gj (λh=>absurd h s) λ_=>?_;refine gr ?_;exact⟨⟨_,rfl,done (.inl (by omega)) _ (by rw[decide_eq_false s];rfl)⟩,rfl⟩
def S0(a:Po×List (Option Rep))(q:Ask):Po×List (Option Rep):=match Jt a.1 q with
 |none=>(a.1,a.2++[none])
 |some r=>(r.1,a.2++[some r.2])
def GE(l:List Ask):Po×List (Option Rep):=l.foldl S0 (G3,[])
structure RpV where
 e:Int
 i:Int
 a:Option Addr
 n:Nat
 c:Nat
 b:Option Addr
 m:Nat
 d:Nat
 z:Ino
def TY(x:RpV):List Value:=wEe x.e x.i (.slice x.a x.n x.c) (.slice x.b x.m x.d) x.z
theorem Fl(x:RpV):(TY x).length=8:=rfl
def RpOk(M:Mem)(o:Option Rep)(x:RpV):Prop:=(o.isSome=true↔x.e=0)/\x.i=(o.getD Bp).id/\BS M (.slice x.a x.n x.c) (o.getD Bp).data
variable{o:Option Rep}
theorem RpOk.mono{x:RpV}(h:RpOk M o x)(a:MLe M M'):RpOk M' o x:=⟨h.1,h.2.1,h.2.2.mono a⟩
theorem wLr{l:List Ask}:∀{a:Po×List (Option Rep)},Fh a.1 []->Fh (l.foldl S0 a).1 []:=by
 induction l with
 |nil=>intro a h;exact h
 |cons q l b=>
  intro a h
  rw[foldl_cons]
  refine b ?_
  unfold S0
  split
  ·exact h
  rename_i r c;exact wQc (r:=r.2) h (by rw[c])
theorem YH(l:List Ask):Fh (GE l).1 []:=wLr Hm
structure PlI where
 k:Nat
 y:V5
 o:Po
 rs:List (Option Rep)
 xs:List RpV
 v:Value
 R:Lc
 M:Mem
structure AkF(l:List TI):Prop where
 sz:∀x∈l,x.1.path.length<=1000000/\x.1.other.length<=1000000/\x.1.data.length<=1000000
def RpsOk(M:Mem)(rs:List (Option Rep))(xs:List RpV):Prop:=xs.length=rs.length/\∀i (h1:i<rs.length) (h2:i<xs.length),RpOk M rs[i] xs[i]
variable{rs:List (Option Rep)}{xs:List RpV}
theorem RpsOk.mono(h:RpsOk M rs xs)(a:MLe M M'):RpsOk M' rs xs:=⟨h.1,λi c b=>(h.2 i c b).mono a⟩
theorem RpsOk.snoc{r:Option Rep}{x:RpV}(h:RpsOk M rs xs)(b:RpOk M r x):RpsOk M (rs++[r]) (xs++[x]):=⟨by simp[h.1],λi d f=>by
 by_cases e:i<rs.length
 ·have a:i<xs.length:=by rw[h.1];exact e
  rw[List.getElem_append_left e,List.getElem_append_left a];exact h.2 i e a
 have c:=h.1
 have:i=rs.length:=by simp at d;omega
 subst this
 rw[List.getElem_append_right (Nat.le_refl _),List.getElem_append_right (by omega)]
 simpa [c]using b⟩
def PlX(X:Po->Ask->Int->Prop)(l:List TI)(rs:List (Option Rep))(xs:List RpV):Prop:=∀i (h1:i<rs.length) (h2:i<xs.length) (h3:i<l.length),rs[i]=none->X (((l.take i).map (·.1)).foldl S0 (G3,[])).1 l[i].1 xs[i].e
variable{X:Po->Ask->Int->Prop}{k:Nat}
theorem PlX.snoc{a:List (Option Rep)}{r:Option Rep}{x:RpV}{o:Po}(h:PlX X l rs xs)(c:rs.length=k)(hk:k<l.length)(b:xs.length=k)(f:((l.take k).map (·.1)).foldl S0 (G3,[])=(o,a))(d:r=none->X o l[k].1 x.e):PlX X l (rs++[r]) (xs++[x]):=λi j m g=>by
 by_cases e:i<k
 ·rw [List.getElem_append_left (by omega),List.getElem_append_left (by omega)];exact h i (by omega) (by omega) g
 have:i=k:=by simp at j;omega
 subst this
 rw[List.getElem_append_right (by omega),List.getElem_append_right (by omega),f]
 simpa [c,b]using d
def DoS(X:Po->Ask->Int->Prop)(x:TI)(M:Mem):Prop:=∀(o:Po)(y:V5)(M':Mem),MLe M M'->PW M' y o->Fh o []->SpecL prog 11 #[DH o y,.agg (Lm x).toArray] M' [] λu M2 L'=>DoX (X o x.1) o x.1 u M2/\L'=[]
theorem Qj(X:Po->Ask->Int->Prop)(l:List TI)(a:Option Addr)(c:Nat)(M:Mem)(h:AkS M a l)(hX:∀x∈l,DoS X x M)(hl:l.length<=1000):
  SpecL prog 6 #[.slice a l.length c] M [] λu M' L'=>(∃(y:V5)(xs:List RpV)(ra:Option Addr)(rc:Nat),u=.tuple #[DH (GE (l.map (·.1))).1 y,.slice ra xs.length rc]/\PW M' y (GE (l.map (·.1))).1/\SM M' ra (xs.flatMap TY)/\xs.length<=rc/\RpsOk M' (GE (l.map (·.1))).2 xs/\xs.length=l.length/\PlX X l (GE (l.map (·.1))).2 xs)/\L'=[]:=by
 refine sB func6 ntmps6 ?_;intro W;refine gA λb2=>?_;refine gc (Tr M) ?_;rintro _ M1 ao ad;obtain⟨y0,rfl,aa⟩:=ad.five;have ah:PW M1 y0 G3:=⟨aa,by decide,by decide⟩;refine gA λb4=>?_;refine CC (α:=PlI) (λz=>[(0,.slice a l.length c),(2,pB b2),(4,pB b4),(5,z.v),(6,.int .i64 z.k)]) (λz=>z.M) (λz=>GG b4 z.y z.o.gen z.o.root z.o.next::GG b2 PP 0 0 0::(z.R++[])) (λz=>z.k<=l.length/\((l.take z.k).map (·.1)).foldl S0 (G3,[])=(z.o,z.rs)/\PW z.M z.y z.o/\Own z.v z.R 45 8 z.k (z.xs.flatMap TY)/\z.xs.length=z.k/\RpsOk z.M z.rs z.xs/\MLe M1 z.M/\PlX X l z.rs z.xs) (λz=>l.length-z.k) ⟨0,y0,G3,[],[],AL,[],M1⟩ ⟨Nat.zero_le _,rfl,ah,Own.nil _ _,rfl,⟨rfl,λi h=>absurd h (Nat.not_lt_zero _)⟩,MLe.refl _,λi h=>absurd h (Nat.not_lt_zero _)⟩ ?_;rintro⟨k,y,o,rs,xs,ov,R,Mk⟩ ⟨hk,s,hp,V,j,D,K,F⟩;try dsimp only at hk s hp V j D K F⊢
 have L:=ao.trans K;have ap:Fh o []:=by have:=wLr (l:=(l.take k).map (·.1)) (a:=(G3,[])) Hm;rw[s]at this;exact this
 obtain⟨oa,oc,rfl⟩:=V.form;refine gj (λaq=>?_) λaq=>?_
 ·have n:k<l.length:=by omega
  obtain⟨sb,so,e0,hx⟩:=(h.sm.mono L).open (by intro e;have:=congrArg length e;rw[Aj Lm 7 Ft,length_nil]at this;omega);cases e0;have S:=Bs Lm 7 Ft hx (List.getElem?_eq_getElem n);have I:=(h.bs l[k] (getElem_mem n)).mono L;have Q:=h.kd l[k] (getElem_mem n);have H:∀M',MLe Mk M'->SpecL prog 11 #[DH o y,.agg (Lm l[k]).toArray] M' [] λu Y L'=>DoX (X o l[k].1) o l[k].1 u Y/\L'=[]:=λM' N=>hX _ (getElem_mem n) o y M' (L.trans N) (hp.mono N) ap;have G:∀(B:Option Rep)(Z:RpV),(B=none->X o l[k].1 Z.e)->PlX X l (rs++[B]) (xs++[Z]):=λB Z h3=>F.snoc (D.1.symm.trans j) n j s h3;have E:((l.take (k+1)).map (·.1)).foldl S0 (G3,[])=S0 (o,rs) l[k].1:=by
   rw[List.take_succ_eq_append_getElem n,List.map_append,List.foldl_append,s];rfl
  generalize l[k]=ak at S I Q H G E;obtain⟨q,dv⟩:=ak;dsimp only at I Q H G E;obtain⟨da,dc,rfl,_,_⟩:=_root_.id I;refine gh ?_;refine AV [GG b4 y o.gen o.root o.next] (by kernel_rfl) (by simp) ?_;refine gk [0,1,2,3] ?_;refine Et (i:=4) rfl (by kernel_rfl) (by kernel_rfl) rfl rfl (A1 (cs:=JG q (.slice da q.data.length dc)) rfl rfl rfl rfl rfl (λi v hv=>(S i v hv).cj _)) ?_;refine wXc 5 9 10 [6,7,8] [111,112] H ?_;rintro _ Y U ⟨y2,O,r,e,rd,rn,rfl,ag,J,am,hr⟩;refine gy λb7 b8=>?_;obtain⟨g,f,rfl,ay,ax⟩:=_root_.id J;obtain⟨d,b,rfl,aw,av⟩:=_root_.id am;refine gh ?_;refine lh (Ab (cs:=wEe e r.id (.slice g r.data.length f) (.slice d r.names.length b) r.stat) rfl rfl rfl (by rfl) (by rfl) (by rfl)) ?_;rintro _ _ _ ⟨au,rfl,rfl,rfl⟩;refine gh ?_;have P:∃B:Option Rep,S0 (o,rs) q=(O,rs++[B])/\(∀M':Mem,MLe Y M'->RpOk M' B ⟨e,r.id,g,r.data.length,f,d,r.names.length,b,r.stat⟩)/\(B=none->X o q e):=by
   rcases hr with⟨h0,hd⟩|⟨h0,hd,h1,h2,h3⟩
   ·exact ⟨some r,by unfold S0;dsimp only;rw[hd],λM' N=>⟨by simp[h0],rfl,J.mono N⟩,λk=>by cases k⟩
   subst h1;subst h2;exact⟨none,by unfold S0;dsimp only;rw[hd],λM' N=>⟨by simp[h0],rfl,J.mono N⟩,λ_=>h3⟩
  obtain⟨B,ae,ac,ai⟩:=P;refine lh (AY (R:=R) (m:=1) (news:=TY ⟨e,r.id,g,r.data.length,f,d,r.names.length,b,r.stat⟩) rfl rfl rfl rfl V rfl (λi v h=>CJ.loc (by simpa [TY]using h)) rfl rfl (by simp[TY,Value.oneCell']) (by omega) (by decide)) ?_;rintro v3 _ _ ⟨rfl,S2,rfl,aj,_⟩;refine gh ?_;refine BD ⟨k+1,y2,O,rs++[B],xs++[⟨e,r.id,g,r.data.length,f,d,r.names.length,b,r.stat⟩],v3,S2,Y⟩ ⟨by show k+1<=l.length;omega,by dsimp only;rw[E,ae],ag,by dsimp only;rw[List.flatMap_append];simpa using aj,by simp[j],(D.mono U).snoc (ac _ (MLe.refl _)),K.trans U,G B _ ai⟩ (hs:=by
   intro w hw;refine St.sel (C:=[(au,cE (wEe e r.id (.slice g r.data.length f) (.slice d r.names.length b) r.stat) 45),(b8,cE (wEe e r.id (.slice g r.data.length f) (.slice d r.names.length b) r.stat) 45),GG b7 y2 O.gen O.root O.next]) hw ?_;dsimp only[GG,Bo,Qh];exact BE)
 have al:k=l.length:=by omega
 subst al;rw[take_length]at s;have af:GE (l.map (·.1))=(o,rs):=s;refine gg ?_;refine BK V (by simp) ?_;intro M4 a4 c4 T e4 az ab;cases e4;refine gr ?_;rw[af];exact⟨⟨y,xs,oa,oc,by rw[j];rfl,hp.mono T,ab,by omega,D.mono T,j,F⟩,rfl⟩
theorem H3(l:List TI)(a:Option Addr)(c:Nat)(M:Mem)(h:AkS M a l)(g:AkF l)(k:l.length<=1000)(m:Tabs M)(n:Kinds M):
  SpecL prog 6 #[.slice a l.length c] M [] λu M' G=>(∃(y:V5)(xs:List RpV)(e:Option Addr)(d:Nat),u=.tuple #[DH (GE (l.map (·.1))).1 y,.slice e xs.length d]/\PW M' y (GE (l.map (·.1))).1/\SM M' e (xs.flatMap TY)/\xs.length<=d/\RpsOk M' (GE (l.map (·.1))).2 xs/\xs.length=l.length)/\G=[]:=
 (Qj (λ_ _ _=>True) l a c M h (λx b o y M' i j s=>(Ki o y M' j s (m.mono i) (n.mono i) x.1 (h.kd x b) (g.sz x b).1 (g.sz x b).2.1 _ ((h.bs x b).mono i) (g.sz x b).2.2).mono λ_ _ _ f=>⟨f.1.x,f.2⟩) k).mono λ_ _ _ f=>by
  obtain⟨⟨y,xs,e,d,F,E,D,C,B,z,_⟩,w⟩:=f
  exact⟨⟨y,xs,e,d,F,E,D,C,B,z⟩,w⟩
section
variable{P:Program}{ops:Array Oper}{N:Fs}{F:Fr}{E:Ent}{M:Mem}{L:Lc}{o:Oper}
theorem hMark{x:Operand}{s e:TypeId}{b n c:Nat}{l:List Value}{L2:Lc}(B:gd ops F o=some true)(z:o.op=.convert s s x)(u:ev F x=some (.slice (some ⟨b,0,none⟩) n c))[hs:Und P s (.slice e)][C:Und P e (.int .u8)][I:Rm b (.cells l.toArray e (0,0)) L L2]:
  HF P ops N F E M L o (λv M' H=>v=.slice (some ⟨b,0,none⟩) n c/\M=M'/\H=(b,.cells l.toArray e (l.length,l.length+1))::L2):=CP B λa w D y=>by
 obtain⟨k,f⟩:=y.setRm (b:=b) (mo':=.cells l.toArray e (l.length,l.length+1))
 have j:=Bw k
 have g:w.shape? b=some (e,l.length):=by simp[World.shape?,k]
 have d:w.freeze ⟨b,l.length,none⟩ 1={ w with heap:=w.heap.setIfInBounds b (.cells l.toArray e (l.length,l.length+1)) }:=by
  have G:(w.heap.modify b fun|.cells c elem (lo,hi)=>.cells c elem (if lo==hi then (l.length,l.length+1)else (min lo l.length,max hi (l.length+1)))|o=>o)=w.heap.setIfInBounds b (.cells l.toArray e (l.length,l.length+1)):=by
   apply Array.ext_getElem?;intro i;rw[Array.getElem?_modify,Array.getElem?_setIfInBounds];by_cases m:b=i
   ·subst m;rw[if_pos rfl,if_pos rfl,k,if_pos j];rfl
   rw[if_neg m,if_neg m]
  simp only[World.freeze,Nat.one_ne_zero,if_false];exact congrArg (λh=>{ w with heap:=h }) G
 refine⟨_,_,M,_,.inl ?_,f,rfl,rfl,rfl⟩
 rw[<-d]
 simp[execOp,z,D.ev u,convert,run_underlying hs.h,run_underlying C.h,markStringish,g]
end
abbrev wLs:List By:=[47,49,47,97]
abbrev wXh:Ask:=⟨1,[],[],0,0,0,[]⟩
abbrev XR:Ask:=⟨5,wLs,[],0,0,0,[]⟩
abbrev wVp:Ask:=⟨7,wLs,[],2,0,0,[120]⟩
abbrev wVo:Ask:=⟨8,wLs,[],0,9,0,[]⟩
abbrev EH(dv:Value):List TI:=[(wXh,AL),(XR,AL),(wVp,dv),(wVo,AL)]
theorem Rl(M:Mem):SpecL prog 7 #[] M [] λu M' f=>∃b dv,u=.slice (some ⟨b,0,none⟩) 4 4/\BS M' dv [120]/\f=[(b,cE ((EH dv).flatMap Lm) 39)]:=by
 refine sB (vs:=[]) func7 ntmps7 ?_;intro W;refine gh ?_;refine lh (Ab (cs:=[.int .u8 120]) rfl rfl rfl (by rfl) (by rfl) (by rfl)) ?_;rintro _ _ _ ⟨a,rfl,rfl,rfl⟩;refine gg ?_;refine lh (hMark (b:=a) rfl rfl rfl) ?_;rintro _ _ _ ⟨rfl,rfl,rfl⟩;refine gh ?_;refine lh (Ab (cs:=(EH (.slice (some ⟨a,0,none⟩) 1 1)).flatMap Lm) rfl rfl rfl (by rfl) (by rfl) (by rfl)) ?_;rintro _ _ _ ⟨c,rfl,rfl,rfl⟩;refine gg ?_;refine AF a (by simp) ?_;intro g d e;refine gh ?_;refine zd [(c,cE ((EH (.slice (some ⟨a,0,none⟩) 1 1)).flatMap Lm) 39)] rfl ?_;exact⟨c,.slice (some ⟨a,0,none⟩) 1 1,rfl,⟨_,_,rfl,Nat.le_refl _,SM.of_block e⟩,rfl⟩
variable{dv:Value}
theorem Xh(c:BS M dv [120])(h:SM M a ((EH dv++l).flatMap Lm))(e:∀x∈l,BS M x.2 x.1.data)(d:∀x∈l,0<=x.1.kind/\x.1.kind<256):AkS M a (EH dv++l):=⟨h,λx b=>by
 simp only[EH,List.mem_append,List.mem_cons,List.not_mem_nil,or_false]at b
 rcases b with (rfl|rfl|rfl|rfl)|b
 ·exact BS.nil0
 ·exact BS.nil0
 ·exact c
 ·exact BS.nil0
 ·exact e x b,λx b=>by
 simp only[EH,List.mem_append,List.mem_cons,List.not_mem_nil,or_false]at b
 rcases b with (rfl|rfl|rfl|rfl)|b
 all_goals first|exact d x b|(dsimp only;decide)⟩
theorem Jy{p o:Po}{q:Ask}{r:Rep}(h:Jt p q=some (o,r))(hk:q.kind=8\/q.kind=16\/q.kind=17):o=p:=by
 unfold Jt at h;split at h
 ·rcases hk with e|e|e
  ·rw [e]at h;replace h:GW p q=some (o,r):=h;unfold GW at h;split at h
   ·obtain ⟨c,_,a⟩:=Option.bind_eq_some_iff.1 h;rw[if_neg (show ¬q.kind=7 by omega)]at a;obtain⟨_,_,b⟩:=Option.map_eq_some_iff.1 a;cases b;rfl
   cases h
  ·rw [e]at h;replace h:Kt p q=some (o,r):=h;unfold Kt at h;obtain⟨c,_,a⟩:=Option.bind_eq_some_iff.1 h;split at a
   ·obtain ⟨_,_,b⟩:=Option.map_eq_some_iff.1 a;cases b;rfl
   cases a
  rw[e]at h;replace h:NP p q=some (o,r):=h;unfold NP at h;obtain⟨c,_,b⟩:=Option.map_eq_some_iff.1 h;cases b;rfl
 cases h
theorem num_1:T6 [49]=some 1:=by decide +kernel
theorem Hf:DY wLs=some (1,[[97]]):=by
 have h:Lib.itoa 1=[49]:=by unfold Lib.itoa;rw[if_neg (by decide)];exact Lib.decDigits_one (by decide)
 unfold DY;rw[if_pos (by decide +kernel)];have a:UB (Lib.trimPrefix wLs [47])=([49],[97],true):=by decide +kernel
 rw[a];unfold WL;dsimp only;rw[num_1];dsimp only;rw[if_pos (by exact⟨by decide,by decide,h⟩)];decide +kernel
def Uc(p:Po):Option (Po×Int):=((Fa p 1 []).bind λy=>if y.dir then some (1,y.id,[97])else none).bind λ(c:Int×Int×List By)=>LL p c.1 c.2.1 c.2.2 false
def wWn(p:Po):Option Po:=(Fa p 1 [[97]]).bind λy=>Gk p 1 y.id 2 [120]
def wWv(p:Po):Option (List By):=(Fa p 1 [[97]]).bind λy=>K5 p 1 y.id 0 9
def Z0(o:Option (Po×Rep)):Bool:=match o with
 |none=>false
 |some (p1,r1)=>match Uc p1 with
  |none=>false
  |some (p2,i2)=>match wWn p2 with
   |none=>false
   |some p3=>match wWv p3 with
    |none=>false
    |some d=>decide (r1.id=1/\i2=2/\d=[0,0,120])
theorem XL:Z0 (DQ G3)=true:=by
 decide +kernel
theorem wRw(o:Option (Po×Rep))(h:Z0 o=true):∃e c p2 b a d,o=some (e,c)/\Uc e=some (p2,b)/\wWn p2=some a/\wWv a=some d/\c.id=1/\b=2/\d=[0,0,120]:=by
 unfold Z0 at h;split at h
 ·cases h
 split at h
 ·cases h
 rename_i p2 b i;split at h
 ·cases h
 rename_i a g;split at h
 ·cases h
 rename_i d f;exact⟨_,_,_,_,_,_,rfl,i,g,f,of_decide_eq_true h⟩
theorem do_0(p:Po):Jt p wXh=DQ p:=rfl
theorem RT{q:Ask}(hk:1<=q.kind/\q.kind<19)(a:q.path=wLs)(b:kindsL.getD q.kind.toNat 0=1):HQ q=true:=by
 unfold HQ;rw[decide_eq_true hk,b,a];show ((DY wLs).isSome&&true)=true;rw[Hf];rfl
theorem Uf(p:Po):Jt p XR=(Uc p).map λr=>(r.1,{ Bp with id:=r.2 }):=by
 have h:Bm p wLs=(Fa p 1 []).bind λy=>if y.dir then some (1,y.id,[97])else none:=by unfold Bm;rw[Hf,Option.bind_some,if_neg (by decide)];rfl
 unfold Jt;rw[if_pos (RT (by decide) rfl (by decide))];show ((Bm p wLs).bind _)=_;rw[h];unfold Uc;cases (Fa p 1 []).bind (λy=>if y.dir then some ((1:Int),y.id,([97]:List By))else none)<;>rfl
theorem do_2(p:Po):Jt p wVp=(wWn p).map (·,Bp):=by
 unfold Jt;rw[if_pos (RT (by decide) rfl (by decide))];show GW p wVp=_;unfold GW Eb;rw[if_pos (by decide +kernel),Hf];unfold wWn;dsimp only[Option.bind_some];cases Fa p 1 [[97]]<;>rfl
theorem do_3(p:Po):Jt p wVo=(wWv p).map λd=>(p,{ Bp with data:=d }):=by
 unfold Jt;rw[if_pos (RT (by decide) rfl (by decide))];show GW p wVo=_;unfold GW Eb;rw[if_pos (by decide +kernel),Hf];unfold wWv;dsimp only[Option.bind_some];cases Fa p 1 [[97]]<;>rfl
variable{rs:List (Option Rep)}
theorem CA{p o:Po}{q:Ask}{r:Rep}(h:Jt p q=some (o,r)):S0 (p,rs) q=(o,rs++[some r]):=by
 unfold S0;show (match Jt p q with|none=>_|some r=>_)=_;rw[h]
theorem wLp(z:Po)(c p2 a:Po)(r1:Rep)(b:Int)(d:List By)(h:DQ z=some (c,r1))(g:Uc c=some (p2,b))(f:wWn p2=some a)(e:wWv a=some d):
  ([wXh,XR,wVp,wVo].foldl S0 (z,[])).2=[some r1,some { Bp with id:=b },some Bp,some { Bp with data:=d }]:=by
 rw[foldl_cons,CA ((do_0 z).trans h),foldl_cons,CA (o:=p2) (r:={ Bp with id:=b }) (by rw[Uf,g];rfl),foldl_cons,CA (o:=a) (r:=Bp) (by rw[do_2,f];rfl),foldl_cons,CA (o:=a) (r:={ Bp with data:=d }) (by rw[do_3,e];rfl)];rfl
theorem XK:∃c a e b,(GE [wXh,XR,wVp,wVo]).2=[some c,some a,some e,some b]/\c.id=1/\a.id=2/\b.data=[0,0,120]:=by
 obtain⟨g,a,p2,i,f,d,m,l,k,j,h⟩:=wRw _ XL;exact⟨a,_,_,_,wLp G3 g p2 f a i d m l k j,h.1,h.2.1,h.2.2⟩
section
variable{xs:List RpV}{M:Mem}{b off:Nat}{rs:List (Option Rep)}
theorem rp_e(e:∀i u,(xs.flatMap TY)[i]? =some u->CM M b (off+i) u)(a:RpsOk M rs xs)(k:Nat){r:Rep}(hk:rs[k]? =some (some r)):CM M b (off+k*8) (.int .i64 0):=by
 obtain⟨d,g⟩:=List.getElem?_eq_some_iff.1 hk;have c:k<xs.length:=by rw[a.1];exact d
 have f:=a.2 k d c;have:=Bs TY 8 Fl e (List.getElem?_eq_getElem c) 0 _ rfl;rwa[f.1.1 (by rw[g];rfl)]at this
theorem wYm(e:∀i u,(xs.flatMap TY)[i]? =some u->CM M b (off+i) u)(a:RpsOk M rs xs)(k:Nat){r:Rep}(hk:rs[k]? =some (some r)):CM M b (off+k*8+1) (.int .i64 r.id):=by
 obtain⟨d,g⟩:=List.getElem?_eq_some_iff.1 hk;have c:k<xs.length:=by rw[a.1];exact d
 have f:=a.2 k d c;have:=Bs TY 8 Fl e (List.getElem?_eq_getElem c) 1 _ rfl;rwa[f.2.1,g]at this
theorem rp_d(f:∀i u,(xs.flatMap TY)[i]? =some u->CM M b (off+i) u)(a:RpsOk M rs xs)(k:Nat){r:Rep}(hk:rs[k]? =some (some r)):∃v,CM M b (off+k*8+2) v/\BS M v r.data:=by
 obtain⟨e,g⟩:=List.getElem?_eq_some_iff.1 hk;have d:k<xs.length:=by rw[a.1];exact e
 have c:=(a.2 k e d).2.2;rw[g]at c;exact⟨_,Bs TY 8 Fl f (List.getElem?_eq_getElem d) 2 _ rfl,c⟩
end
theorem Ll(M:Mem)(C:Tabs M)(E:Kinds M):SpecL prog 8 #[] M [] λu M' N=>u=.bool true/\N=[]:=by
 refine sB (vs:=[]) func8 ntmps8 ?_;intro W;refine gC (Rl M) ?_;rintro _ M1 _ o ⟨b,dv,rfl,m,rfl⟩;refine Az b (by simp) ?_;intro L g G;have n:=Xh (l:=[]) (m.mono g) (SM.of_block G) (λ_ h=>by cases h) λ_ h=>by cases h
 have w:=o.trans g;refine gc (H3 (EH dv) (some ⟨b,0,none⟩) 4 L n ⟨by simp⟩ (by simp) (C.mono w) (E.mono w)) ?_;rintro _ M3 D ⟨y,xs,S,Q,rfl,Y,j,B,c,d⟩;obtain⟨X,V,U,T,k,I,H,F⟩:=XK;rw[show (EH dv).map (·.1)=[wXh,XR,wVp,wVo]from rfl]at c;rw[k]at c;obtain⟨R,P,s,i⟩:=j.open (by intro e;have:=congrArg length e;rw[Aj TY 8 Fl,d]at this;simp at this);cases s;have z:=wYm i c 0 rfl;have c1:=wYm i c 1 rfl;have K:=rp_e i c 2 rfl;obtain⟨O,J,f⟩:=rp_d i c 3 rfl;rw[I]at z;rw[H]at c1;rw[F]at f;rw[show xs.length=4 from d];refine gA λZ=>?_;refine gg ?_;refine lq (Au rfl rfl rfl rfl (z.cj _)) ?_;refine gj (λ_=>?_) λh=>absurd rfl h;refine gg ?_;refine lq (Au rfl rfl rfl rfl (c1.cj _)) ?_;refine gj (λ_=>?_) λh=>absurd rfl h;refine gg ?_;refine lq (Au rfl rfl rfl rfl (K.cj _)) ?_;refine gj (λ_=>?_) λh=>absurd rfl h;refine gg ?_;refine lq (Au rfl rfl rfl rfl (J.cj _)) ?_;refine lq (wLf f rfl rfl rfl) ?_;refine lq (Bh (Pw (a:=[0,0,120]) (b:=[0,0,120]) rfl rfl rfl rfl) (v':=.bool true) rfl) ?_;refine gr ?_;exact⟨rfl,rfl⟩
end Go.Proofs.YtjheijhahehnmaaGreatDoor
