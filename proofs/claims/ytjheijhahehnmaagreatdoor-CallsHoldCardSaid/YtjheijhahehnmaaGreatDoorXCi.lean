/- Lemmas. -/
import Derived.Test.YtjheijhahehnmaaGreatDoorXCg
namespace Go.Proofs.YtjheijhahehnmaaGreatDoor
open Go.Proofs.Tryz
open List (replicate length_replicate length_take length_drop map_take map_drop length length_nil foldl_append getD range)
set_option linter.unusedSimpArgs false
set_option linter.unusedVariables false
set_option linter.unusedSectionVars false
set_option maxHeartbeats 40000000
set_option maxRecDepth 8000
open Go.RowKit
def ByR(r:Option (List By))(u:Value)(M':Mem):Prop:=∃s e,u=.tuple #[s,iL e]/\Rs r e λl=>BS M' s l
theorem Uj:replicate 128 (iB 0)=Aa (replicate 128 0):=by simp[Aa]
abbrev Rl(x:Pc):List Value:=[iL x.blk,iL x.fr,iL x.to]
theorem Ju(x:Pc):(Rl x).length=3:=rfl
theorem PU(x:Pc)(M:Mem):Sg 197 #[.agg (Rl x).toArray] M [] λu _ _=>u=iL (Ug x):=by
 refine sB func197 ntmps197 ?_;intro W;refine gA λa=>?_;iterate 5
  refine gj (λh=>?_) λh=>?_;refine gr ?_;exact cA _ (by unfold Ug;rw[iP (by omega)])
 refine gr ?_;exact cA _ (by unfold Ug;rw[iN (by omega)])
theorem Kr{x:Pc}(h:Ug x=0):0<=x.blk/\x.blk<32/\0<=x.fr/\x.fr<x.to/\x.to<=128:=by unfold Ug at h;split at h<;>omega
theorem wJx(n:Int)(M:Mem):Sg 199 #[iL n] M [] λu _ _=>u=.tuple #[iL (if n<0\/4096<n then 0 else (n+127) / 128),iL (if n<0\/4096<n then 2 else 0)]:=by
 refine sB func199 ntmps199 ?_;intro W;refine gj (λa=>?_) λa=>?_
 ·refine gr ?_;rw[iP (.inl a),iP (.inl a)]
 refine gj (λb=>?_) λb=>?_
 ·refine gr ?_;rw[iP (.inr (by omega)),iP (.inr (by omega))]
 refine gg ?_;refine lq (wQw rfl rfl rfl rfl (by omega) (by omega) (by omega)) ?_;refine gr ?_;rw[iN (by omega),iN (by omega),show n+128-1=n+127 by omega]
theorem FC(a n:Int)(k:Nat):EQ a n (k+1)=EQ a n k++QX a n k:=by unfold EQ;rw[List.range_succ,List.flatMap_append];simp
theorem GE(a n:Int):∀k,(EQ a n k).length<=k
 |0=>by simp[EQ]
 |k+1=>by
  have:=GE a n k;rw[FC,List.length_append];unfold QX;split<;>simp<;>omega
theorem QW(a n:Int):∀k,∀x∈EQ a n k,Ug x=0\/32<k
 |0,x,h=>by simp[EQ]at h
 |k+1,x,h=>by
  rw[FC]at h;rcases mA h with h|h
  ·exact (QW a n k x h).imp id (by omega)
  unfold QX at h;split at h
  ·rw [mS h];unfold Ug;dsimp only;split<;>omega
  cases h
def PcR(r:Option (List Pc))(u:Value)(M':Mem):Prop:=∃l a c e,u=.tuple #[.slice a l.length c,iL e]/\l.length<=c/\SM M' a (l.flatMap Rl)/\Rs r e (l=·)
theorem MZ(a n:Int)(M:Mem):Sg 121 #[iL a,iL n] M [] λu G H=>PcR (Ht a n) u G/\H=[]:=by
 refine sB func121 ntmps121 ?_;intro W;refine gj (λC=>?_) λC=>?_
 ·refine gr ?_;exact⟨⟨[],none,0,2,rfl,lR,SM.nil,.no (by decide) (by unfold Ht;rw[iP (by omega)])⟩,rfl⟩
 refine gj (λB=>?_) λB=>?_
 ·refine gr ?_;exact⟨⟨[],none,0,2,rfl,lR,SM.nil,.no (by decide) (by unfold Ht;rw[iP (by omega)])⟩,rfl⟩
 refine gj (λz=>?_) λz=>?_
 ·refine gr ?_;exact⟨⟨[],none,0,2,rfl,lR,SM.nil,.no (by decide) (by unfold Ht;rw[iP (by omega)])⟩,rfl⟩
 refine gj (λy=>?_) λy=>?_
 ·refine gr ?_;exact⟨⟨[],none,0,2,rfl,lR,SM.nil,.no (by decide) (by unfold Ht;rw[iP (by omega)])⟩,rfl⟩
 have o:Ht a n=some (EQ a n 32):=by unfold Ht;rw[iN (by omega)]
 refine gh ?_;refine Cy (α:=Nat×Value×Lc) (λx=>[(0,iL a),(1,iL n),(6,x.2.1),(26,iL x.1)]) (λ_=>M) (λx=>x.2.2) (λx=>x.1<=32/\Own x.2.1 x.2.2 211 3 (EQ a n x.1).length ((EQ a n x.1).flatMap Rl)) (λx=>32-x.1) (0,sN,[]) ⟨by omega,Own.nil _ _⟩ ?_;rintro⟨k,s,R⟩ ⟨l,b⟩;try dsimp only at l b⊢
 have K:=GE a n k;refine gj (λg=>?_) λg=>?_
 ·refine gg ?_;refine lq (wVu rfl rfl rfl rfl) ?_;refine gg ?_;refine lq (UX rfl rfl rfl rfl) ?_;refine gj (λd=>?_) λd=>?_
  ·refine gg ?_;refine lh (Ab (cs:=[_,_,_]) rfl rfl rfl (by rfl) (by rfl) (by rfl)) ?_;rintro _ _ _ ⟨E,rfl,rfl,rfl⟩;refine lh (AY (R:=R) (m:=1) rfl rfl rfl rfl b rfl (λi v j=>CJ.loc (by simpa using j)) rfl (by rfl) (by simp[Value.oneCell']) (by omega) (by omega)) ?_;rintro h _ _ ⟨rfl,F,rfl,c,_⟩;refine gh ?_;refine BB (k+1,h,F) ⟨by show k+1<=32;omega,by show Own _ _ _ _ (EQ a n (k+1)).length ((EQ a n (k+1)).flatMap _);rw[FC,show QX a n k=[⟨k,max (a-k*128) 0,min (a+n-k*128) 128⟩]from iP d,List.length_append,List.flatMap_append];simpa [Rl]using c⟩
  refine gh ?_;refine BB (k+1,s,R) ⟨by show k+1<=32;omega,by show Own _ _ _ _ (EQ a n (k+1)).length ((EQ a n (k+1)).flatMap _);rw[FC,show QX a n k=[]from iN d,List.append_nil];exact b⟩
 obtain rfl:k=32:=by omega
 obtain⟨J,I,rfl⟩:=b.form;refine gg ?_;refine BF b (by simp) ?_;intro O N L w D f e;cases D;refine gr ?_;exact⟨⟨_,_,_,0,rfl,f,e,.yes _ o rfl⟩,rfl⟩
variable{b w:List By}
theorem RJ(h:Hv b=some w):w.length=128:=by
 unfold Hv at h;split at h
 ·cases h;simp
 split at h
 ·cases h;assumption
 cases h
theorem Nq(v:Value)(b:List By)(M:Mem)(h:BS M v b):Sg 196 #[v] M [] λu z s=>(∃w e,u=.tuple #[.agg (Aa w).toArray,iL e]/\w.length=128/\Rs (Hv b) e (w=·))/\s=[]:=by
 obtain⟨a,c,rfl,y,n⟩:=h;by_cases d:b.length=0\/b.length=128
 ·obtain ⟨w,m,l⟩:∃w,Hv b=some w/\(Aa (replicate 128 0)).take 0++Aa b++(Aa (replicate 128 0)).drop (0+(Aa b).length)=Aa w:=by
   unfold Hv;rcases d with d|d
   ·rw [iP d];exact⟨_,rfl,by rw[List.length_eq_zero_iff.1 d];simp[Aa]⟩
   rw[iN (by omega),iP d];exact⟨_,rfl,by rw[Ac,d];simp[Aa]⟩
  have g:=RJ m;rcases d with d|d;all_goals
   refine sB func196 ntmps196 ?_;intro W;refine gA λo=>?_;rw[Uj];refine gt ?_;refine lq (PM rfl rfl rfl) ?_;refine gg ?_;refine lh (VO (cs:=Aa b) rfl rfl rfl rfl (by rw[Ac];omega) (n.sj _) (BI _) (by rw[Ac,Ac,length_replicate];omega)) ?_;rintro _ _ _ ⟨rfl,rfl,rfl⟩;rw[l];refine gg ?_;refine lq (A0 (cs:=Aa w) rfl rfl rfl rfl (by rw[Ac];exact g) (λi v k=>CJ.loc (by simpa using k))) ?_;refine Dv rfl (JJ rfl rfl rfl rfl (by rw[Ac];exact g) (BI _) (by rw[Ac];exact g)) ?_;rintro _ _ _ ⟨rfl,rfl⟩;refine gh ?_;refine zs rfl ?_ (.cons (.agg rfl rfl (by rw[Ac];exact g)) (.cons (.tmp rfl) .nil));exact⟨⟨w,0,rfl,g,.yes w m rfl⟩,rfl⟩
 obtain⟨w,j,f⟩:∃w:List By,replicate 128 0=w/\w.length=128:=⟨_,rfl,by simp⟩;refine sB func196 ntmps196 ?_;intro W;refine gA λo=>?_;rw[Uj,j];refine gt ?_;refine lq (A0 (cs:=Aa w) rfl rfl rfl rfl (by rw[Ac];exact f) (λi v k=>CJ.loc (by simpa using k))) ?_;refine Dv rfl (JJ rfl rfl rfl rfl (by rw[Ac];exact f) (BI _) (by rw[Ac];exact f)) ?_;rintro _ _ _ ⟨rfl,rfl⟩;refine gh ?_;refine zs rfl ?_ (.cons (.agg rfl rfl (by rw[Ac];exact f)) (.cons (.tmp rfl) .nil));exact⟨⟨_,3,rfl,f,.no (by decide) (by unfold Hv;rw[iN (by omega),iN (by omega)])⟩,rfl⟩
theorem wBj(v:Value)(b:List By)(x:Pc)(M:Mem)(h:BS M v b):Sg 128 #[v,.agg (Rl x).toArray] M [] λu H I=>ByR (VV b x) u H/\I=[]:=by
 refine sB func128 ntmps128 ?_;intro W;refine gA λO=>?_;refine gc (Nq v b M h) ?_;rintro _ G B ⟨w,e,rfl,o,k⟩;refine gA λE=>?_;refine Dv rfl (JJ rfl rfl rfl rfl (by rw[Ac];exact o) (BI _) (length_replicate ..)) ?_;rintro _ _ _ ⟨rfl,rfl⟩;refine gj (λd=>?_) λd=>?_
 ·subst d;obtain⟨_,_,n,rfl⟩:=k.val (by simp);have g:VV b x=if Ug x=0 then some ((w.drop x.fr.toNat).take (x.to-x.fr).toNat)else none:=by unfold VV;rw[n];rfl
  refine gQ (PU x G) ?_;refine gj (λa=>?_) λa=>?_
  ·refine gr ?_;exact⟨⟨_,_,rfl,.no a (by rw[g,iN a])⟩,rfl⟩
  have L:=Kr (nN a);rw[iP (nN a)]at g;refine gg ?_;refine lq (wVs rfl rfl rfl (.no _) (.of rfl (by omega) rfl) (.of rfl (by omega) rfl) (by omega) (by simp)) ?_;refine AA E (by simp) ?_;intro F z C;have j:=BS.cut (l:=x.fr.toNat) (r:=x.to.toNat) (c:=128) (SM.of_block C) (by omega) (by omega) (by omega) (by omega);refine gC (EF _ _ F j (by rw[length_take,length_drop];omega)) ?_;rintro _ S R y m;obtain⟨K,J,rfl⟩:=m.form;refine gg ?_;refine BF m (by simp) ?_;intro Q P N s D i f;cases D;refine gr ?_;exact⟨⟨_,0,rfl,.yes _ g (by rw[show (x.to-x.fr).toNat=x.to.toNat-x.fr.toNat by omega];exact⟨_,_,rfl,i,f⟩)⟩,rfl⟩
 refine gu ?_;exact⟨⟨_,e,rfl,.no d (by unfold VV;rw[k.err d];rfl)⟩,rfl⟩
variable{d:List By}
theorem W4{f t:Nat}(b:f<=w.length)(a:t=f+d.length):(Aa w).take (0+f*1)++Aa d++(Aa w).drop (0+f*1+(Aa d).length)=Aa (w.take f++d++w.drop t):=by
 subst a;simp[Aa,map_take,map_drop]
theorem Ki(v z:Value)(b d:List By)(x:Pc)(M:Mem)(h:BS M v b)(F:BS M z d):Sg 192 #[v,.agg (Rl x).toArray,z] M [] λu O P=>ByR (U2 b x d) u O/\P=[]:=by
 obtain⟨da,U,rfl,E,j⟩:=id F;refine sB func192 ntmps192 ?_;intro W;refine gA λX=>?_;refine gc (Nq v b M h) ?_;rintro _ N n ⟨w,e,rfl,D,s⟩;refine gA λo=>?_;refine Dv rfl (JJ rfl rfl rfl rfl (by rw[Ac];exact D) (BI _) (length_replicate ..)) ?_;rintro _ _ _ ⟨rfl,rfl⟩;refine gj (λc=>?_) λc=>?_
 ·subst c;obtain⟨_,_,C,rfl⟩:=s.val (by simp);have g:U2 b x d=if Ug x=0/\(d.length:Int)=x.to-x.fr then some (w.take x.fr.toNat++d++w.drop x.to.toNat)else none:=by unfold U2;rw[C];rfl
  refine gQ (PU x N) ?_;refine gj (λa=>?_) λa=>?_
  ·refine gr ?_;exact⟨⟨_,_,rfl,.no a (by rw[g,iN λk=>a k.1])⟩,rfl⟩
  have T:=Kr (nN a);refine gj (λf=>?_) λf=>?_
  ·refine gr ?_;exact⟨⟨_,_,rfl,.no (by decide) (by rw[g,iN λk=>f k.2])⟩,rfl⟩
  rw[iP ⟨nN a,nN f⟩]at g;refine gg ?_;refine lq (Bo (wVs rfl rfl rfl (.no _) (.of rfl (by omega) rfl) (.of rfl (by omega) rfl) (by omega) (by simp)) (v':=.slice (some ⟨o,0+x.fr.toNat*1,none⟩) (x.to.toNat-x.fr.toNat) (128-x.fr.toNat)) (by rw[AG (by omega)])) ?_;refine gg ?_;refine lh (VO (cs:=Aa d) rfl rfl rfl rfl (by rw[Ac];omega) ((j.mono n).sj _) (BI _) (by rw[Ac,Ac];omega)) ?_;rintro _ _ _ ⟨rfl,rfl,rfl⟩;rw[W4 (t:=x.to.toNat) (by omega) (by omega)];refine gg ?_;refine lq (PM rfl rfl rfl) ?_;refine AA o (by simp) ?_;intro B I K;have J:(w.take x.fr.toNat++d++w.drop x.to.toNat).length=128:=by simp;omega
  have m:BS B (.slice (sA o 0) 128 128) (w.take x.fr.toNat++d++w.drop x.to.toNat):=⟨_,_,by rw[J],by omega,SM.of_block K⟩;refine gC (EF _ _ B m (by omega)) ?_;rintro _ M3 R H y;obtain⟨S,Q,rfl⟩:=y.form;refine gg ?_;refine BF y (by simp) ?_;intro Z Y V G L l i;cases L;refine gr ?_;exact⟨⟨_,0,rfl,.yes _ g ⟨_,_,rfl,l,i⟩⟩,rfl⟩
 refine gu ?_;exact⟨⟨_,e,rfl,.no c (by unfold U2;rw[s.err c];rfl)⟩,rfl⟩
abbrev kcl(k:Ky):List Value:=[iB k.kind,iU k.id,iU k.off]
def Wd(i n:Int):Ky:=if TL i n=0 then Hq i n else⟨0,0,0⟩
theorem QQ(i n:Int)(M:Mem):Sg 282 #[iU i,iL n] M [] λu _ _=>u=.tuple #[.agg (kcl (Wd i n)).toArray,iL (TL i n)]:=by
 refine sB func282 ntmps282 ?_;intro W;refine gA λk=>?_;have a:(i<1\/1048576<i\/n<0\/32<=n)->TL i n=2/\Wd i n=⟨0,0,0⟩:=λh=>by
  have e:TL i n=2:=iP h;exact⟨e,by unfold Wd;rw[e];rfl⟩
 refine gj (λg=>?_) λg=>?_
 ·refine gr ?_;obtain⟨d,c⟩:=a (.inl g);rw[d,c];rfl
 refine gj (λe=>?_) λe=>?_
 ·refine gr ?_;obtain⟨d,c⟩:=a (.inr (.inl (by omega)));rw[d,c];rfl
 refine gQ (PU ⟨n,0,1⟩ M) ?_;refine gj (λb=>?_) λb=>?_
 ·refine gr ?_;obtain⟨d,c⟩:=a (by unfold Ug at b;dsimp only at b;split at b<;>omega);rw[d,c];rfl
 have j:=Kr (nN b);dsimp only at j;have f:TL i n=0:=iN (by omega);refine gg ?_;refine lq (Eo rfl rfl rfl (by rw[IntKind.wrap_u32];omega)) ?_;refine gr ?_;unfold Wd;rw[iP f,f];rfl
variable{i:Int}
theorem LO{n:Int}(h:TL i n=0):Wd i n=Hq i n:=iP h
def RfR(r:Option (List Int))(u:Value)(M':Mem):Prop:=∃l a e,u=.tuple #[.slice a l.length l.length,iL e]/\SM M' a (Al l)/\Rs r e (l=·)/\(e=0->l.length=32)
variable{k:Nat}{l:List Int}
theorem rset{v:Int}(hk:k<l.length):(Al l).take (0+k*1)++[iL v]++(Al l).drop (0+k*1+[iL v].length)=Al (l.set k v):=by
 rw[List.set_eq_take_append_cons_drop,iP hk];simp[Al,map_take,map_drop]
def wUa(r:List Int)(i:It):List Int:=r.set i.key.off.toNat i.ref
theorem wQp(a:List It)(r:List Int):(a.foldl wUa r).length=r.length:=by
 induction a generalizing r with
 |nil=>rfl
 |cons x c b=>rw[List.foldl_cons,b];simp[wUa]
variable{y:It}
theorem wTj{a b:Int}(h:btw (Hq i a) (Hq i b) y=true):a<=y.key.off/\y.key.off<=b:=by
 unfold btw Hq at h;rw[Bool.and_eq_true]at h;obtain⟨d,c⟩:=h;simp only[Ap,Bool.not_eq_true']at d c;grind
theorem Hc(p:Po)(x:V5)(M:Mem)(h:PW M x p)(v i:Int):Sg 200 #[DM p x,iU v,iU i] M [] λu Z L'=>RfR (DI p v i) u Z/\L'=[]:=by
 refine sB func200 ntmps200 ?_;intro W;refine gA λb3=>?_;refine gQ (QQ i 0 M) ?_;refine gA λb8=>?_;refine gj (λg=>?_) λg=>?_
 ·refine gr ?_;exact⟨⟨[],none,_,rfl,SM.nil,.no g (by unfold DI;rw[iN g]),λk=>aD k g⟩,rfl⟩
 have F:=nN g;have E:TL i 31=0:=by have:=TK F;unfold TL;rw[iN (by omega)]
 have m:DI p v i=(S7 p v (Hq i 0) (Hq i 31)).map λl=>l.foldl wUa (replicate 32 0):=by unfold DI;rw[iP F];rfl
 rw[LO F];refine gQ (QQ i 31 M) ?_;rw[LO E];refine ga λX=>?_;refine gc (F2 p x M h v (Hq i 0) (Hq i 31)) ?_;rintro _ Y S ⟨s,rfl,H⟩;generalize s.v=sv at H⊢;obtain⟨a,c,ps,rfl,hc,y,w,z⟩:=H;refine gj (λf=>?_) λf=>?_
 ·refine gr ?_;exact⟨⟨[],none,_,rfl,SM.nil,.no f (by rw[m,NY f];rfl),λk=>aD k f⟩,rfl⟩
 rw[Hx f,Option.map_some]at m;have B:=(vrn_fine (p:=p) (q:=v) (a:=Hq i 0) (b:=Hq i 31)).2;generalize Mo p v (Hq i 0) (Hq i 31)=d at *;refine gA λo=>?_;refine gh ?_;refine Cy (α:=Nat) (λk=>[(13,pB o),(40,.slice a d.length c),(41,iL d.length),(42,iL k)]) (λ_=>Y) (λk=>[(o,cE (Al ((d.take k).foldl wUa (replicate 32 0))) 391)]) (λk=>k<=d.length) (λk=>d.length-k) 0 (zL) ?_ (hs:=λ_ h=>h.fewer (by rw[show Al ((d.take 0).foldl wUa (replicate 32 0))=replicate 32 (iL 0)by simp[Al]];exact List.sublist_append_left [_] _));rintro k Q;try dsimp only at Q⊢
 have j:((d.take k).foldl wUa (replicate 32 0)).length=32:=by rw[wQp];simp
 refine gj (λD=>?_) λD=>?_
 ·have n:k<d.length:=by omega
  obtain⟨sb,so,U,K⟩:=y.open (by intro e;have:=cA length e;rw[Af Ad 5 Ae,length_nil]at this;have T:=cA length w;rw[List.length_map]at T;omega);cases U;obtain⟨J,I,C,N,L⟩:=Av K w z n;have P:=wTj (B.2 d[k] (List.getElem_mem n)).2.2;refine gg ?_;refine lq (A0 (cs:=EL d[k] J I) rfl rfl rfl rfl rfl (λi v O=>(C i v O).cj _)) ?_;refine gA λV=>?_;refine gh ?_;refine lq (FO rfl rfl rfl rfl (by omega)) ?_;refine Dv rfl (Ak rfl rfl rfl rfl (cs:=[iL d[k].ref]) rfl rfl rfl (by rw[Ay,j,Nat.ble_eq];show 0+d[k].key.off.toNat*1+1<=32;omega) (rset (by omega))) ?_;rintro _ _ _ ⟨rfl,rfl⟩;refine gh ?_;rw[show ((d.take k).foldl wUa (replicate 32 0)).set d[k].key.off.toNat d[k].ref=(d.take (k+1)).foldl wUa (replicate 32 0)by rw[List.take_succ_eq_append_getElem n,foldl_append];rfl];refine BB (k+1) (by show k+1<=_;omega)
 obtain rfl:k=d.length:=by omega
 rw[List.take_length]at j⊢;refine gg ?_;refine lq (PM rfl rfl rfl) ?_;refine gg ?_;refine AD o (by simp) ?_;intro M2 R G;refine gr ?_;exact⟨⟨_,_,0,by rw[j],SM.of_block G,.yes _ m rfl,λ_=>j⟩,rfl⟩
def ItR(r:Option (List It))(i b:Int)(u:Value)(M':Mem):Prop:=∃l sv k e,u=.tuple #[sv,.agg (kcl k).toArray,iL e]/\NS M' sv l/\Rs r e (l=·)/\(e=0->TL i b=0/\k=Hq i b)/\l.length<=15625
theorem QR(p:Po)(x:V5)(M:Mem)(h:PW M x p)(v i b:Int):Sg 194 #[DM p x,iU v,iU i,iL b] M [] λu l m=>ItR (QP p v i b) i b u l/\m=[]:=by
 refine sB func194 ntmps194 ?_;intro W;refine NF λo n=>?_;refine gQ (QQ i b M) ?_;refine gA λd=>?_;refine gj (λa=>?_) λa=>?_
 ·refine gg ?_;refine DW [0,1,2,103,4] [(d,cE [iB (Wd i b).kind,iU (Wd i b).id,iU (Wd i b).off] 92)] ?_;refine gr ?_;exact⟨⟨[],_,_,_,rfl,NS.nil,.no a (by unfold QP;rw[iN a]),λk=>aD k a,zL⟩,rfl⟩
 have f:=nN a;have c:QP p v i b=S7 p v (Hq i b) (Hq i b):=iP f;rw[LO f];refine gh ?_;refine gc (F2 p x M h v (Hq i b) (Hq i b)) ?_;rintro _ w j ⟨s,rfl,g⟩;refine gg ?_;refine DW [0,1,2,3,104,5] [(d,cE [iB (Hq i b).kind,iU (Hq i b).id,iU (Hq i b).off] 92)] ?_;refine gr ?_;refine⟨⟨_,_,_,_,rfl,g,?_,λ_=>⟨f,rfl⟩,vrn_fine.2.1⟩,rfl⟩;by_cases e:KQ p v=0
 ·rw [e];exact .yes _ (by rw[c,Hx (by simpa using e)]) rfl
 exact .no e (by rw[c,NY e])
theorem KH(p:Po)(x:V5)(M:Mem)(h:PW M x p)(v i b:Int):Sg 127 #[DM p x,iU v,iU i,iL b] M [] λu M' L'=>ByR (EW p v i b) u M'/\L'=[]:=by
 refine sB func127 ntmps127 ?_;intro W;refine gA λX=>?_;refine gc (QR p x M h v i b) ?_;rintro _ Z E ⟨l,sv,k,e,rfl,T,H,hk,P⟩;obtain⟨a,c,ps,rfl,hc,C,w,D⟩:=T;refine gA λY=>?_;refine gj (λf=>?_) λf=>?_
 ·refine gr ?_;exact⟨⟨_,e,rfl,.no f (by unfold EW;rw[H.err f];rfl)⟩,rfl⟩
 obtain⟨rfl,_,I,rfl⟩:=H.val f;have G:((replicate (128:Int).toNat [iB 0]).flatten)=Aa (replicate 128 0):=by simp[Aa]
 cases l with
 |nil=>
  have S:(([]:List It).length:Int)=0:=rfl
  refine gt ?_
  refine lh (DP rfl rfl rfl rfl (by omega) (by rfl)) ?_;rintro _ _ _ ⟨o,rfl,rfl,rfl⟩
  refine gg ?_
  refine AD o (by simp) ?_
  intro J g m
  refine gr ?_
  exact⟨⟨_,0,rfl,.yes (replicate 128 0) (by unfold EW;rw[I];rfl) ⟨_,_,by rw[length_replicate];rfl,by decide,by rw[<-G];exact SM.of_block m⟩⟩,rfl⟩
 |cons y F=>
  obtain⟨sb,so,V,K⟩:=C.open (by intro e;have:=cA length e;rw[Af Ad 5 Ae,length_nil]at this;have U:=cA length w;rw[List.length_map,List.length_cons]at U;omega)
  cases V
  obtain⟨va,vc,B,N,L⟩:=Av K w D (k:=0) (by simp)
  have Q:(0:Int)<((y::F).length:Int):=by simp
  have d:EW p v i b=if y.ref=0 then some (replicate 128 0)else if QV p y.ref false=0 then some (seen p.st y.ref.toNat)else none:=by unfold EW;rw[I];rfl
  generalize hn:(y::F).length=n at *
  refine gt ?_
  refine lq (Aw rfl rfl rfl rfl ((B 3 _ rfl).cj _)) ?_
  refine gj (λj=>?_) λj=>?_
  ·refine gg ?_
   refine lh (DP rfl rfl rfl rfl (by omega) (by rfl)) ?_;rintro _ _ _ ⟨o,rfl,rfl,rfl⟩
   refine gg ?_
   refine AD o (by simp) ?_
   intro J g m
   refine gr ?_
   exact⟨⟨_,0,rfl,.yes (replicate 128 0) (by rw[d];exact iP j) ⟨_,_,by rw[length_replicate];rfl,by decide,by rw[<-G];exact SM.of_block m⟩⟩,rfl⟩
  rw[iN (by simpa using j)]at d
  refine gg ?_
  refine DW [0,1,2,3,4,105,6,7,8,9] [GJ X x p.gen p.root p.next] ?_
  refine gg ?_
  refine dq rfl (Aw rfl rfl rfl rfl ((B 3 _ rfl).cj _)) ?_
  refine dh rfl (hC (WP p x Z (h.mono E).pt h.dead y.ref)) ?_;rintro _ J _ ⟨g,R,rfl,⟨s,rfl,O⟩,rfl⟩
  refine⟨g,by simp,?_⟩
  refine gr ?_
  refine⟨⟨_,_,rfl,?_⟩,rfl⟩
  by_cases z:QV p y.ref false=0
  ·rw [z];exact .yes _ (by rw[d,iP z]) (O z)
  exact .no z (by rw[d,iN z])
theorem wWh{p q:Po}{k:Int}(h:(MO p d).toOption=some (q,k)):q.dead=p.dead/\q.next=p.next:=by
 obtain⟨t,_,rfl,_⟩:=wKh (Fl h);exact⟨rfl,rfl⟩
theorem wFj(p:Po)(x:V5)(M:Mem)(h:PW M x p)(d:List By)(f:Value)(z:BS M f d):Sg 283 #[DM p x,f] M [] λu m o=>(∃(y:V5)(g j n i e:Int),u=.tuple #[.agg (Bk y g j n).toArray,iL i,iL e]/\Rs (MO p d).toOption e λq=>PW m y q.1/\g=q.1.gen/\j=q.1.root/\n=q.1.next/\i=q.2)/\o=[]:=by
 refine(wKg p x M h.pt h.dead d f z).mono λu m o ⟨a,w⟩=>⟨?_,w⟩;unfold PoP2 at a;split at a
 ·rename_i e c;exact⟨Pv,0,0,0,0,e,a.2,.no a.1 (by rw[c];rfl)⟩
 rename_i q k c;obtain⟨y,rfl,s⟩:=a;have l:(MO p d).toOption=some (q,k):=by rw[c];rfl
 have b:=Zw h (wWh l);exact⟨y,_,_,_,_,0,rfl,.yes (q,k) l ⟨⟨s,b.1,b.2⟩,rfl,rfl,rfl,rfl⟩⟩
theorem H3(p:Po)(x:V5)(M:Mem)(h:PW M x p)(v i b:Int)(D:u32 v)(d:List By)(w:Value)(s:BS M w d):Sg 193 #[DM p x,iU v,iU i,iL b,w] M [] λu Q R=>PoR (D5 p v i b d) u Q/\R=[]:=by
 obtain⟨da,S,rfl,I,H⟩:=id s;refine sB func193 ntmps193 ?_;intro W;refine NF λT O=>?_;refine gQ (QQ i b M) ?_;refine gA λN=>?_;refine gj (λc=>?_) λc=>?_
 ·refine gr ?_;exact⟨.no c (by unfold D5;rw[iN λk=>c k.1]),rfl⟩
 have l:=nN c;rw[LO l];refine gj (λj=>?_) λj=>?_
 ·refine gr ?_;exact⟨.no (by decide) (by unfold D5;rw[iN λk=>j (by omega)]),rfl⟩
 have n:D5 p v i b d=(MO p d).toOption.bind λq=>EC q.1 v ⟨Hq i b,q.2,[]⟩:=by unfold D5;rw[iP ⟨l,by omega⟩]
 refine gh ?_;refine gc (wFj p x M h d _ s) ?_;rintro _ P K ⟨y,g,B,C,m,e,rfl,o⟩;refine gA λL=>?_;refine gj (λa=>?_) λa=>?_
 ·refine gr ?_;exact⟨.no a (by rw[n,o.err a];rfl),rfl⟩
 obtain⟨rfl,⟨q,k⟩,F,G,rfl,rfl,rfl,rfl⟩:=o.val a;refine gc (GH q y P G v D ⟨Hq i b,m,[]⟩ _ BS.nil (Yw l)) ?_;rintro u U J f;obtain⟨z,g,B,C,e,rfl,E⟩:=id f;refine gr ?_;exact⟨by rw[n,F];exact f,rfl⟩
theorem KI(p:Po)(x:V5)(M:Mem)(h:PW M x p)(v i b:Int)(s:u32 v):Sg 201 #[DM p x,iU v,iU i,iL b] M [] λu K L=>PoR (FB p v i b) u K/\L=[]:=by
 refine sB func201 ntmps201 ?_;intro W;refine NF λU T=>?_;refine gc (QR p x M h v i b) ?_;rintro _ J m ⟨l,N,k,e,rfl,G,o,E,D⟩;obtain⟨a,c,P,rfl,R,w,B,C⟩:=G;refine gA λI=>?_;refine gj (λd=>?_) λd=>?_
 ·refine gr ?_;exact⟨.no d (by unfold FB;rw[o.err d];rfl),rfl⟩
 obtain⟨rfl,_,F,rfl⟩:=o.val d;obtain⟨S,rfl⟩:=E rfl;have f:FB p v i b=if l=[]then some p else Pu p v (Hq i b):=by unfold FB;rw[F];rfl
 refine gj (λn=>?_) λn=>?_
 ·refine gr ?_;exact⟨(h.mono m).r (by rw[f,iP (List.length_eq_zero_iff.1 (by omega))]),rfl⟩
 rw[iN (λk=>n (by rw[k];rfl))]at f;refine gc (Na p x J (h.mono m) v s (Hq i b)) ?_;rintro u V H j;obtain⟨z,g,O,Q,e,rfl,y⟩:=id j;refine gr ?_;exact⟨by rw[f];exact j,rfl⟩
variable{k:Nat}{β:Type}{a:Option β}
theorem EO{α:Type}{f:Option β->α->Option β}{l:List α}(hk:k<l.length):(l.take (k+1)).foldl f a=f ((l.take k).foldl f a) l[k]:=by
 rw[List.take_succ_eq_append_getElem hk,foldl_append];rfl
theorem EX{α:Type}{f:Option β->α->Option β}(b:∀x,f none x=none){l:List α}(hk:k<l.length)(h:f ((l.take k).foldl f a) l[k]=none):l.foldl f a=none:=by
 conv=>lhs;rw[<-List.take_append_drop (k+1) l]
 rw[foldl_append,EO hk,h];exact E6 b _
variable{b:Option β}
theorem G7{α:Type}{f:Option β->α->Option β}{l:List α}(hk:¬k<l.length)(h:(l.take k).foldl f a=b):l.foldl f a=b:=by rwa[List.take_of_length_le (by omega)]at h
section
variable{P:Program}{ops:Array Oper}{N:Fs}{F:Fr}{E:Ent}{M:Mem}{L:Lc}{o:Oper}
theorem HF.fz1{W:World}{j:Mem}{K:Value->Nat->Obj->Prop}(h:HF P ops N F ⟨W,[],j⟩ M L o λv d f=>∃b c,K v b c/\M=d/\f=(b,c)::L):HF P ops N F ⟨W,[],j⟩ M L o λv d f=>MLe M d/\f=L/\∃b c,K v b c/\d b=some c:=λa w i g=>
 ⟨(h a w i g).1,λQ=>Oper.wpIn_mono (λy u ⟨v,d,f,e,m,s⟩=>by
  obtain⟨b,c,n,rfl,rfl⟩:=s
  obtain⟨l,k⟩:=m.freeze (by simp)
  exact⟨v,_,L,e,l,k,rfl,b,c,n,by unfold Mem.set;rw[iP rfl]⟩) ((h a w i g).2 Q)⟩
end
variable{E:Ent}{F:Fr}{K:Act->World->Prop}{L:Lc}{M:Mem}{N:Fs}{Q:Exit->Act->World->Prop}
theorem jTg{l:Nat}(h:JQ N (.goto l) F E M L Q):JQ N (.goto l) F E M L (Exit.then K Q):=h
abbrev Gh(v i:Int):Value:=.agg #[iU v,iU i]
theorem Yv{p:Po}{v i b:Int}{l:List By}(h:EW p v i b=some l):l.length=128:=by
 unfold EW at h;obtain⟨c,_,h⟩:=oB h;split at h
 ·cases h;simp
 split at h
 ·cases h;simp
 split at h
 ·rename_i d;obtain⟨e,f,a,_⟩:=wMs d;cases h;exact K2 (Fg e) (by omega)
 cases h
theorem wMe(a n:Int)(M:Mem)(h: -1000000<=a/\a<=1000000):Sg 204 #[iL a,iL n] M [] λu _ _=>u=.bool (decide (Ho a n)):=by
 refine sB func204 ntmps204 ?_;intro W;refine gj (λe=>?_) λe=>?_
 ·refine gj (λd=>?_) λd=>?_
  ·refine gj (λc=>?_) λc=>?_
   ·refine gj (λb=>?_) λb=>?_
    ·refine gr ?_;exact cA _ (decide_eq_true ⟨by omega,by omega,by omega,by omega⟩).symm
    refine gr ?_;exact cA _ (dF (by unfold Ho;omega)).symm
   refine gr ?_;exact cA _ (dF (by unfold Ho;omega)).symm
  refine gr ?_;exact cA _ (dF (by unfold Ho;omega)).symm
 refine gr ?_;exact cA _ (dF (by unfold Ho;omega)).symm
theorem wBd(p:Po)(x:V5)(M:Mem)(h:PW M x p)(v i:Int)(j:u32 v)(b k:Int)(hk:TL i b=0):Sg 206 #[DM p x,Gh v i,iL b,iL k] M [] λu s w=>PoR (wCj v i p b k) u s/\w=[]:=by
 refine sB func206 ntmps206 ?_;intro W;refine Ye λC B y=>?_;refine gj (λc=>?_) λc=>?_
 ·refine gc (KI p x M h v i b j) ?_;rintro u o f a;obtain⟨z,g,l,m,e,rfl,d⟩:=id a;refine gr ?_;exact⟨by unfold wCj;rw[iP c];exact a,rfl⟩
 refine gQ (QQ i b M) ?_;rw[LO hk];refine ga λn=>?_;refine gc (GH p x M h v j ⟨Hq i b,k,[]⟩ _ BS.nil (Yw hk)) ?_;rintro u o f a;obtain⟨z,g,l,m,e,rfl,d⟩:=id a;refine gr ?_;exact⟨by unfold wCj;rw[iN c];exact a,rfl⟩
theorem Wo(p:Po)(x:V5)(M:Mem)(h:PW M x p)(k:Int):Sg 287 #[DM p x,iL k] M [] λu c d=>PoR (wCc p k) u c/\d=[]:=
 (Uo p x M h.pt h.dead k).mono λ_ _ _ b=>⟨b.1.r λq a=>Zw h (by
  unfold Tn at a
  split at a
  ·split at a
   ·cases a
   cases a;exact⟨rfl,rfl⟩
  cases a),b.2⟩
structure Hld where
 k:Nat
 q:Po
 y:V5
 M:Mem
theorem wEc(p:Po)(x:V5)(M:Mem)(h:PW M x p)(l:List Int)(a:Option Addr)(c:Nat)(hs:SM M a (Al l))(T:l.length<=1000):Sg 205 #[DM p x,.slice a l.length c] M [] λu N O=>PoR (l.foldl J5 (some p)) u N/\O=[]:=by
 refine sB func205 ntmps205 ?_;intro W;refine NF λF E=>?_;refine Cy (α:=Hld) (λz=>[(2,pB F),(4,pB E),(10,.slice a l.length c),(11,iL l.length),(12,iL z.k)]) (λz=>z.M) (λz=>[GJ E Pv 0 0 0,GJ F z.y z.q.gen z.q.root z.q.next]) (λz=>z.k<=l.length/\(l.take z.k).foldl J5 (some p)=some z.q/\PW z.M z.y z.q/\MLe M z.M) (λz=>l.length-z.k) ⟨0,p,x,M⟩ ⟨zL,rfl,h,mR⟩ ?_;rintro⟨k,q,y,G⟩ ⟨J,m,n,d⟩;try dsimp only at J m n d⊢
 refine gj (λC=>?_) λC=>?_
 ·have b:k<l.length:=by omega
  obtain⟨Q,P,K,I⟩:=hs.open (by intro e;have:=cA length e;rw[Ay,length_nil]at this;omega);cases K;have w:l[k]=l.getD k 0:=by simp[getD,b]
  refine gg ?_;refine lq (Aw rfl rfl rfl rfl (((I _ (iL l[k]) (by rw[mO,w];exact TA b)).mono d).cj _)) ?_;refine gj (λi=>?_) λi=>?_
  ·refine gh ?_;refine BB ⟨k+1,q,y,G⟩ ⟨by show k+1<=_;omega,by rw[EO b,m];show J5 _ _=_;unfold J5;rw[bS,iP i],n,d⟩
  have j:J5 (some q) l[k]=wCc q l[k]:=by unfold J5;rw[bS,iN i]
  refine gc (Wo q y G n l[k]) ?_;rintro u L B ⟨z,g,R,S,e,rfl,D⟩;refine gA λU=>?_;refine gj (λf=>?_) λf=>?_
  ·refine gr ?_;exact⟨.no f (EX (λ_=>rfl) b (by rw[m,j,D.err f])),rfl⟩
  obtain⟨rfl,H,o,s,rfl,rfl,rfl⟩:=D.val f;refine gh ?_;refine BB ⟨k+1,H,z,L⟩ ⟨by show k+1<=_;omega,by rw[EO b,m,j,o],s,d.trans B⟩
 refine gr ?_;exact⟨n.r (G7 (by omega) m),rfl⟩
theorem Wf(p:Po)(x:V5)(M:Mem)(h:PW M x p)(H I b v i a n:Int)(hv:u32 v)(hb: -1000000<=b/\b<=1000000)(ha: -1000000<=a/\a<=1000000):Sg 135 #[DM p x,Gh H I,iL b,Gh v i,iL a,iL n] M [] λu M' L'=>PoR (K3 p H I b v i a n) u M'/\L'=[]:=by
 refine sB func135 ntmps135 ?_;intro W;refine gA4 λb6 b7 b9 U=>?_;refine gQ (wMe b n M hb) ?_;by_cases T:Ho b n;rotate_left
 ·rw [dF T];refine gr ?_;exact⟨.no (by decide) (by unfold K3;rw[iN λk=>T k.1]),rfl⟩
 rw[dT T];refine gQ (wMe a n M ha) ?_;by_cases S:Ho a n;rotate_left
 ·rw [dF S];refine gr ?_;exact⟨.no (by decide) (by unfold K3;rw[iN λk=>S k.2]),rfl⟩
 rw[dT S];have c:K3 p H I b v i a n=(DI p H I).bind λE=>(DI p v i).bind λ_=>(((E.drop b.toNat).take n.toNat).foldl J5 (some p)).bind λq=>(((E.drop b.toNat).take n.toNat).foldl (Vd v i a) (some (q,0))).map (·.1):=iP ⟨T,S⟩;refine gg ?_;refine gc (Hc p x M h H I) ?_;rintro _ M1 R ⟨l,X,e,rfl,hs,N,P⟩;refine gj (λD=>?_) λD=>?_;rotate_left
 ·refine gu ?_;exact⟨.no D (by rw[c,N.err D];rfl),rfl⟩
 subst D;obtain⟨_,_,Y,rfl⟩:=N.val (by simp);have hl:=P rfl;rw[Y,bS]at c;refine gc (Hc p x M1 (h.mono R) v i) ?_;rintro _ M2 Q ⟨l2,al,e2,rfl,am,L,aq⟩;refine gj (λC=>?_) λC=>?_
 ·refine gr ?_;exact⟨.no C (by rw[c,L.err C];rfl),rfl⟩
 obtain⟨rfl,_,j,rfl⟩:=L.val C;rw[j,bS]at c;have ad:TL i 0=0:=by unfold DI at j;split at j;assumption;cases j
 obtain⟨au,aj,ao,ai⟩:=id T;obtain⟨aw,ak,_,av⟩:=id S;rw[hl];have O:((l.drop b.toNat).take n.toNat).length=n.toNat:=by rw[length_take,length_drop];omega
 have F:SM M2 (Hk X b.toNat (b+n).toNat 1) (Al ((l.drop b.toNat).take n.toNat)):=by
  by_cases hn:n=0
  ·rw [hn];exact .inl (by simp[Al])
  have:=(hs.mono Q).part (l:=b.toNat) (m:=(b+n).toNat) (s:=1) (by omega) n.toNat;rw[mO]at this;unfold Al at this⊢;rw[map_take,map_drop];exact this
 generalize ap:(l.drop b.toNat).take n.toNat=d at c O F;refine gg ?_;refine lq (Bo (CK rfl rfl rfl (.of (v:=(b+n).toNat) rfl (by omega) (by omega)) (.of (v:=(b+n).toNat) rfl (by omega) (by omega)) (.of (v:=b.toNat) rfl (by omega) (by omega)) (by omega) (by simp)) (v':=.slice (Hk X b.toNat (b+n).toNat 1) d.length d.length) (by rw[O,show (b+n).toNat-b.toNat=n.toNat by omega])) ?_;refine gc (wEc p x M2 (h.mono (R.trans Q)) d _ _ F (by omega)) ?_;rintro _ M3 ag ⟨y,g,r1,n1,e,rfl,K⟩;refine gj (λB=>?_) λB=>?_
 ·refine gr ?_;exact⟨.no B (by rw[c,K.err B];rfl),rfl⟩
 obtain⟨rfl,q0,aa,ac,rfl,rfl,rfl⟩:=K.val B;rw[aa,bS]at c;refine gh ?_;refine Cy (α:=Hld) (λz=>[(4,iL a),(6,pB b6),(9,pB b9),(12,pB U),(72,.slice (Hk X b.toNat (b+n).toNat 1) d.length d.length),(73,iL d.length),(74,iL z.k)]) (λz=>z.M) (λz=>[GJ U Pv 0 0 0,(b9,cE [iU v,iU i] 123),GJ b6 z.y z.q.gen z.q.root z.q.next]) (λz=>z.k<=d.length/\(d.take z.k).foldl (Vd v i a) (some (q0,0))=some (z.q,(z.k:Int))/\PW z.M z.y z.q/\MLe M2 z.M) (λz=>d.length-z.k) ⟨0,q0,y,M3⟩ ⟨zL,rfl,ac,ag⟩ ?_ (hs:=λ_ h=>h.fewer (.cons_cons _ (.cons_cons _ (.cons _ (.refl _)))));rintro⟨k,q,y,Mk⟩ ⟨hk,V,hq,G⟩;try dsimp only at hk V hq G⊢
 refine gj (λah=>?_) λah=>?_
 ·have o:k<d.length:=by omega
  obtain⟨sb,so,e0,hx⟩:=F.open (by intro e;have:=cA length e;rw[Ay,length_nil]at this;omega);rw[e0];have ae:d[k]=d.getD k 0:=by simp[getD,o]
  refine gg ?_;refine lq (Aw rfl rfl rfl rfl (((hx _ (iL d[k]) (by rw[mO,ae];exact TA o)).mono G).cj _)) ?_;have J:Vd v i a (some (q,(k:Int))) d[k]=(wCj v i q (a+k) d[k]).map λq=>(q,(k:Int)+1):=rfl;refine gc (wBd q y Mk hq v i hv (a+k) d[k] (by have:=TK ad;unfold TL;rw[iN (by omega)])) ?_;rintro u M4 af ⟨z,g,r1,n1,e,rfl,N⟩;refine gj (λw=>?_) λw=>?_
  ·refine gr ?_;exact⟨.no w (by rw[c,EX (f:=Vd v i a) (λ_=>rfl) o (by rw[V,J,N.err w];rfl)];rfl),rfl⟩
  obtain⟨rfl,q2,Z,ab,rfl,rfl,rfl⟩:=N.val w;refine gh ?_;rw[<-e0];refine BB ⟨k+1,q2,z,M4⟩ ⟨by show k+1<=_;omega,by rw[EO o,V,J,Z];rfl,ab,G.trans af⟩
 refine gr ?_;exact⟨hq.r (by rw[c,G7 (by omega) V];rfl),rfl⟩
theorem wNt(b:By)(M:Mem):Sg 286 #[iB b.toNat] M [] λu _ _=>u=.bool (decide (b≠0)):=by
 refine sB func286 ntmps286 ?_;intro W;have a:(b.toNat:Int)≠0↔b≠0:=by
  constructor
  ·intro h e;subst e;exact h rfl
  intro h e;apply h;apply UInt8.toNat_inj.1;show b.toNat=0;omega
 refine gr ?_;exact cA _ (decide_eq_decide.2 a)
theorem Ra(p:Po)(x:V5)(M:Mem)(h:PW M x p)(v i:Int)(hv:u32 v)(c:Pc)(hc:Ug c=0)(F:Bool):Sg 202 #[DM p x,Gh v i,.agg (Rl c).toArray,.bool F] M [] λu Y Z=>PoR (Ge p v i c F) u Y/\Z=[]:=by
 have aa:=Kr hc;refine sB func202 ntmps202 ?_;intro W;refine gA4 λb4 b5 b6 b8=>?_;refine gc (KH p x M h v i c.blk) ?_;rintro _ M1 E ⟨s,e,rfl,hr⟩;refine gj (λo=>?_) λo=>?_
 ·refine gr ?_;exact⟨.no o (by unfold Ge;rw[hr.err o];rfl),rfl⟩
 obtain⟨rfl,b,hb,D⟩:=hr.val o;have hl:=Yv hb;have f:Ge p v i c F=if F=false/\((b.drop c.fr.toNat).take (c.to-c.fr).toNat).all (· =0)then some p else (U2 b c (replicate (c.to-c.fr).toNat 0)).bind λd=>D5 p v i c.blk d:=by unfold Ge;rw[hb];rfl
 obtain⟨sa,sc,rfl,J,I⟩:=id D;cases F with
 |false=>
  refine gg ?_
  refine lq (CK rfl rfl rfl (.no _) (.of rfl (by omega) rfl) (.of rfl (by omega) rfl) (by omega) (by simp)) ?_
  have w:=BS.cut (l:=c.fr.toNat) (r:=c.to.toNat) I J (by omega) (by omega) (by omega)
  rw[show c.to.toNat-c.fr.toNat=(c.to-c.fr).toNat by omega]at w
  obtain⟨ca,cc,e9,ab,O⟩:=w
  rw[show c.to.toNat-c.fr.toNat=(c.to-c.fr).toNat by omega,e9]
  refine gQ (S3 _ ca cc _ (λb=>decide (b≠0)) M1 O (by kernel_rfl) (λb=>wNt b M1) (by rw[length_take,length_drop];omega)) ?_
  have y:((b.drop c.fr.toNat).take (c.to-c.fr).toNat).all (· =0)= !((b.drop c.fr.toNat).take (c.to-c.fr).toNat).any λb=>decide (b≠0):=by rw[List.not_any_eq_all_not];congr 1;funext x;simp
  cases ha:((b.drop c.fr.toNat).take (c.to-c.fr).toNat).any λb=>decide (b≠0)with
  |false=>
   refine gr ?_
   exact⟨(h.mono E).r (by rw[f,iP ⟨rfl,by rw[y,ha];rfl⟩]),rfl⟩
  |true=>
   rw[iN (by rw[y,ha];simp)]at f
   refine gg ?_
   refine DW [0,1,2,3,4,5,6,107,108,9,10,11,12,13] [(b6,cE (Rl c) 211)] ?_
   refine gg ?_
   refine dh rfl (HF.fz1 (K:=λv b H=>v=.slice (sA b 0) (c.to-c.fr).toNat (c.to-c.fr).toNat/\H=cE ((replicate (c.to-c.fr).toNat [iB 0]).flatten) 5) (HF.imp (DP rfl rfl rfl rfl (by omega) (by rfl)) λv Y Z ⟨b,T,S,Q⟩=>⟨b,_,⟨T,rfl⟩,S,Q⟩)) ?_;rintro _ G _ ⟨j,rfl,V,_,⟨rfl,rfl⟩,U⟩
   refine⟨j,by simp,?_⟩
   have B:BS G (.slice (sA V 0) (c.to-c.fr).toNat (c.to-c.fr).toNat) (replicate (c.to-c.fr).toNat 0):=⟨_,_,by rw[length_replicate],by rw[length_replicate];exact lR,by rw[show Aa (replicate (c.to-c.fr).toNat 0)=(replicate (c.to-c.fr).toNat [iB 0]).flatten by simp[Aa]];exact SM.of_block U⟩
   refine gg ?_
   refine dh rfl (hC (Ki _ _ b _ c G (D.mono j) B)) ?_;rintro _ X _ ⟨n,R,rfl,⟨s3,e3,rfl,k⟩,rfl⟩
   refine⟨n,by simp,?_⟩
   refine gg ?_
   refine gj (λa=>?_) λa=>?_
   ·refine gr ?_
    exact⟨.no a (by rw[f,k.err a];rfl),rfl⟩
   obtain⟨rfl,d,N,C⟩:=k.val a
   refine gc (H3 p x X (h.mono ((E.trans j).trans n)) v i c.blk hv d _ C) ?_;rintro u M4 P m
   obtain⟨z,g,r1,n1,e,rfl,L⟩:=id m
   refine gr ?_
   exact⟨by rw[f,N];exact m,rfl⟩
 |true=>
  rw[iN (by simp)]at f
  refine gg ?_
  refine DW [0,1,2,3,4,5,6,107,108,9,10,11,12,13] [(b6,cE (Rl c) 211)] ?_
  refine gg ?_
  refine dh rfl (HF.fz1 (K:=λv b H=>v=.slice (sA b 0) (c.to-c.fr).toNat (c.to-c.fr).toNat/\H=cE ((replicate (c.to-c.fr).toNat [iB 0]).flatten) 5) (HF.imp (DP rfl rfl rfl rfl (by omega) (by rfl)) λv Y Z ⟨b,T,S,Q⟩=>⟨b,_,⟨T,rfl⟩,S,Q⟩)) ?_;rintro _ G _ ⟨j,rfl,V,_,⟨rfl,rfl⟩,U⟩
  refine⟨j,by simp,?_⟩
  have B:BS G (.slice (sA V 0) (c.to-c.fr).toNat (c.to-c.fr).toNat) (replicate (c.to-c.fr).toNat 0):=⟨_,_,by rw[length_replicate],by rw[length_replicate];exact lR,by rw[show Aa (replicate (c.to-c.fr).toNat 0)=(replicate (c.to-c.fr).toNat [iB 0]).flatten by simp[Aa]];exact SM.of_block U⟩
  refine gg ?_
  refine dh rfl (hC (Ki _ _ b _ c G (D.mono j) B)) ?_;rintro _ X _ ⟨n,R,rfl,⟨s3,e3,rfl,k⟩,rfl⟩
  refine⟨n,by simp,?_⟩
  refine gg ?_
  refine gj (λa=>?_) λa=>?_
  ·refine gr ?_
   exact⟨.no a (by rw[f,k.err a];rfl),rfl⟩
  obtain⟨rfl,d,N,C⟩:=k.val a
  refine gc (H3 p x X (h.mono ((E.trans j).trans n)) v i c.blk hv d _ C) ?_;rintro u M4 P m
  obtain⟨z,g,r1,n1,e,rfl,L⟩:=id m
  refine gr ?_
  exact⟨by rw[f,N];exact m,rfl⟩
variable{n:Int}
theorem wQi(h:¬(n<0\/4096<n)):0<=n/\n<=4096/\0<=(n+127) / 128/\(n+127) / 128<=32/\0<=n%128/\n%128<128/\(0<n%128->1<=(n+127) / 128):=by omega
structure Tci where
 k:Nat
 q:Po
 y:V5
 M:Mem
 l:List Int
 a:Option Addr
theorem wVp{f j:Nat}(h:j<((range 32).drop f).length):((range 32).drop f)[j]=f+j:=by simp
theorem RP(p:Po)(x:V5)(M:Mem)(h:PW M x p)(v i:Int)(hv:u32 v)(n:Int):Sg 130 #[DM p x,Gh v i,iL n] M [] λu M' L'=>PoR (HA p v i n) u M'/\L'=[]:=by
 refine sB func130 ntmps130 ?_;intro W;refine Ye λb3 b4 b6=>?_;by_cases E:n<0\/4096<n
 ·refine Qm ?_;refine gQ (wJx n M) ?_;rw[iP E,iP E];refine gt ?_;refine jN (λ_ h=>by cases h) ?_;refine gr ?_;exact⟨.no (by decide) (iP E),rfl⟩
 have K:=wQi E;generalize L:(n+127) / 128=fi at K;obtain⟨f,rfl⟩:∃f:Nat,fi=f:=⟨fi.toNat,by omega⟩;have b:HA p v i n=(DI p v i).bind λw=>(((range 32).drop f).foldl (wMv v i w) (some p)).bind λq=>if 0<n%128/\w.getD (f-1) 0≠0 then Ge q v i ⟨f-1,n%128,128⟩ false else some q:=by unfold HA;rw[iN E,L];rfl
 have ab:((range 32).drop f).length=32-f:=by simp
 refine XU (α:=Tci) 0 (λz=>[(2,iL n),(3,pB b3),(4,pB b4),(6,pB b6),(8,iL (f:Int)),(10,.slice z.a z.l.length z.l.length),(11,iL (z.k:Int))]) (λz=>z.M) (λz=>[GJ b6 Pv 0 0 0,(b4,cE [iU v,iU i] 123),GJ b3 z.y z.q.gen z.q.root z.q.next]) (λz=>DI p v i=some z.l/\z.l.length=32/\SM z.M z.a (Al z.l)/\f<=z.k/\z.k<=32/\PW z.M z.y z.q/\(((range 32).drop f).take (z.k-f)).foldl (wMv v i z.l) (some p)=some z.q) (λz=>32-z.k) 1000 rfl ?_ (λhp=>?_)
 ·rintro ⟨k,q,y,X,l,ra⟩ b0 ⟨c,J,F,T,hk,G,N⟩ U;try dsimp only at c J F T hk G N U⊢
  rw[c,bS]at b;obtain⟨Z,Y,rfl,hx⟩:=F.open (by intro e;have:=cA length e;rw[Ay,length_nil]at this;omega);refine gj (λV=>?_) λV=>?_
  ·have S:k<l.length:=by omega
   have O:k-f<((range 32).drop f).length:=by omega
   refine gg ?_;refine lq (Aw rfl rfl rfl rfl ((hx _ (iL (l.getD k 0)) (by rw[mO];exact TA S)).cj _)) ?_;have d:wMv v i l (some q) ((range 32).drop f)[k-f]=if l.getD k 0≠0 then FB q v i k else some q:=by rw[wVp O,show f+(k-f)=k by omega];rfl
   have B:k+1-f=k-f+1:=by omega
   refine gj (λD=>?_) λD=>?_
   ·rw [iP D]at d;refine gc (KI q y X G v i k hv) ?_;rintro _ P j ⟨z,g,r1,n1,e,rfl,H⟩;refine gj (λo=>?_) λo=>?_
    ·refine gh ?_;refine jJ (λ_ h=>by cases h) ?_;refine gr ?_;exact⟨.no o (by rw[b,EX (f:=wMv v i l) (λ_=>rfl) O (by rw[N,d,H.err o])];rfl),rfl⟩
    obtain⟨rfl,q2,Q,R,rfl,rfl,rfl⟩:=H.val o;refine gh ?_;refine ZJ ?_;refine jTg ?_;refine wKv ⟨k+1,q2,z,P,l,sA Z Y⟩ (by repeat (first|exact .nil|refine .cons rfl ?_)) ⟨c,J,F.mono j,by show f<=k+1;omega,by show k+1<=32;omega,R,by show (((range 32).drop f).take (k+1-f)).foldl _ _=_;rw[B,EO O,N,d,Q]⟩ (by show 32-(k+1)<b0;omega) (λ_ h=>h)
   rw[iN D]at d;refine gh ?_;refine ZJ ?_;refine jTg ?_;refine wKv ⟨k+1,q,y,X,l,sA Z Y⟩ (by repeat (first|exact .nil|refine .cons rfl ?_)) ⟨c,J,F,by show f<=k+1;omega,by show k+1<=32;omega,G,by show (((range 32).drop f).take (k+1-f)).foldl _ _=_;rw[B,EO O,N,d]⟩ (by show 32-(k+1)<b0;omega) (λ_ h=>h)
  rw[G7 (by omega) N,bS]at b;refine gg ?_;refine lq (wVt rfl rfl rfl rfl (by omega) (by omega)) ?_;refine gj (λm=>?_) λm=>?_
  ·have ac:=K.2.2.2.2.2.2 m;have e1:((f:Int)-1).toNat=f-1:=by omega
   refine gg ?_;refine lq (Aw rfl rfl rfl rfl ((hx _ (iL (l.getD (f-1) 0)) (by rw[mO,e1];exact TA (by omega))).cj _)) ?_;refine gj (λC=>?_) λC=>?_
   ·rw [iP ⟨m,C⟩]at b;refine gc (Ra q y X G v i hv ⟨f-1,n%128,128⟩ (by unfold Ug;rw[iN (by dsimp only;omega)]) false) ?_;rintro u P j I;obtain⟨z,g,r1,n1,e,rfl,aa⟩:=id I;refine gh ?_;refine jJ (λ_ h=>by cases h) ?_;refine gr ?_;exact⟨by rw[b];exact I,rfl⟩
   refine gh ?_;refine jJ (λ_ h=>by cases h) ?_;refine gr ?_;exact⟨G.r (by rw[b,iN λk=>C k.2]),rfl⟩
  refine gh ?_;refine jJ (λ_ h=>by cases h) ?_;refine gr ?_;exact⟨G.r (by rw[b,iN λk=>m k.1]),rfl⟩
 refine gQ (wJx n M) ?_;rw[iN E,iN E,L];refine gt ?_;refine gc (Hc p x M h v i) ?_;rintro _ P j ⟨l,ra,e,rfl,F,H,J⟩;refine gj (λs=>?_) λs=>?_
 ·refine gh ?_;refine jJ (λ_ h=>by cases h) ?_;refine gr ?_;exact⟨.no s (by rw[b,H.err s];rfl),rfl⟩
 obtain⟨rfl,_,c,rfl⟩:=H.val s;refine gh ?_;refine Qo ?_;refine jT ?_;exact wSh (by repeat (first|exact .nil|refine .cons rfl ?_)) (Cc (λ_ h=>h) (hp ⟨f,p,x,P,l,ra⟩ ⟨c,J rfl,F,lR,by show f<=32;omega,h.mono j,by show (((range 32).drop f).take (f-f)).foldl _ _=_;rw[Nat.sub_self];rfl⟩ (by show 32-f<=1000;omega)))
theorem wAu(p:Po)(x:V5)(M:Mem)(h:PW M x p)(v i:Int)(S:u32 v)(a b:Int)(ae: -1000000<=a/\b<=1000000):Sg 133 #[DM p x,Gh v i,iL a,iL b] M [] λu M' L'=>PoR (RO p v i a b) u M'/\L'=[]:=by
 refine sB func133 ntmps133 ?_;intro W;refine Ye λb4 b5 b8=>?_;refine gj (λh1=>?_) λh1=>?_
 ·refine gr ?_;exact⟨.no (by decide) (iP (.inl h1)),rfl⟩
 refine gj (λh2=>?_) λh2=>?_
 ·refine gr ?_;exact⟨.no (by decide) (iP (.inr h2)),rfl⟩
 have n:RO p v i a b=(Ht a (b-a)).bind λl=>(DI p v i).bind λN=>l.foldl (wCb v i N) (some p):=iN (by omega);refine gc (MZ a (b-a) M) ?_;rintro _ M1 R ⟨l,la,lc,e,rfl,ad,Y,E⟩;refine gj (λC=>?_) λC=>?_
 ·refine gr ?_;exact⟨.no C (by rw[n,E.err C];rfl),rfl⟩
 obtain⟨rfl,_,d,rfl⟩:=E.val C;rw[d,bS]at n;have ac:l.length<=32:=by
  unfold Ht at d;split at d
  ·cases d
  cases d;exact GE _ _ 32
 have X:∀c∈l,Ug c=0:=λc hc=>by
  unfold Ht at d;split at d
  ·cases d
  cases d;exact(QW _ _ 32 c hc).resolve_right (by decide)
 refine gc (Hc p x M1 (h.mono R) v i) ?_;rintro _ M2 Q ⟨D,ra,e2,rfl,hs,O,Z⟩;refine gj (λB=>?_) λB=>?_
 ·refine gr ?_;exact⟨.no B (by rw[n,O.err B];rfl),rfl⟩
 obtain⟨rfl,_,V,rfl⟩:=O.val B;rw[V,bS]at n;have hl:=Z rfl;obtain⟨rb,ro,rfl,U⟩:=hs.open (by intro e;have:=cA length e;rw[Ay,length_nil]at this;omega);refine gh ?_;refine Cy (α:=Hld) (λz=>[(4,pB b4),(5,pB b5),(8,pB b8),(11,iL 0),(12,.slice (sA rb ro) D.length D.length),(48,.slice la l.length lc),(49,iL l.length),(50,iL z.k)]) (λz=>z.M) (λz=>[GJ b8 Pv 0 0 0,(b5,cE [iU v,iU i] 123),GJ b4 z.y z.q.gen z.q.root z.q.next]) (λz=>z.k<=l.length/\(l.take z.k).foldl (wCb v i D) (some p)=some z.q/\PW z.M z.y z.q/\MLe M2 z.M) (λz=>l.length-z.k) ⟨0,p,x,M2⟩ ⟨zL,rfl,h.mono (R.trans Q),mR⟩ ?_;rintro⟨k,q,y,Mk⟩ ⟨hk,H,P,s⟩;try dsimp only at hk H P s⊢
 refine gj (λab=>?_) λab=>?_
 ·have o:k<l.length:=by omega
  obtain⟨sb,so,e0,hx⟩:=(Y.mono Q).open (by intro e;have:=cA length e;rw[Af Rl 3 Ju,length_nil]at this;omega);cases e0;have d:=Bx Rl 3 Ju hx (List.getElem?_eq_getElem o);have I:=X l[k] (List.getElem_mem o);have aa:=Kr I;have j:wCb v i D (some q) l[k]=if D.getD l[k].blk.toNat 0=0 then some q else if l[k].to-l[k].fr=128 then FB q v i l[k].blk else Ge q v i l[k] true:=rfl
  generalize w:l[k]=c at d I aa j;refine gg ?_;refine lq (A0 (cs:=Rl c) rfl rfl rfl rfl rfl (λi v S=>((d i v S).mono s).cj _)) ?_;refine gA λaf=>?_;refine lq (Aw rfl rfl rfl rfl (((U _ (iL (D.getD c.blk.toNat 0)) (by rw[mO];exact TA (by omega))).mono s).cj _)) ?_;refine gj (λL=>?_) λL=>?_
  ·rw [iP L]at j;refine gh ?_;refine wUk rfl ?_;refine gh ?_;refine BB ⟨k+1,q,y,Mk⟩ ⟨by show k+1<=_;omega,by rw[EO o,H,w];exact j,P,s⟩
  rw[iN L]at j;refine gj (λK=>?_) λK=>?_
  ·rw [iP K]at j;refine gc (KI q y Mk P v i c.blk S) ?_;rintro _ M3 J ⟨z,g,r1,n1,e,rfl,E⟩;refine gj (λm=>?_) λm=>?_
   ·refine gr ?_;exact⟨.no m (by rw[n,EX (f:=wCb v i D) (λ_=>rfl) o (by rw[H,w];exact j.trans (E.err m))]),rfl⟩
   obtain⟨rfl,T,F,G,rfl,rfl,rfl⟩:=E.val m;refine gh ?_;refine BB ⟨k+1,T,z,M3⟩ ⟨by show k+1<=_;omega,by rw[EO o,H,w];exact j.trans F,G,s.trans J⟩
  rw[iN K]at j;refine gc (Ra q y Mk P v i S c I true) ?_;rintro _ M3 J ⟨z,g,r1,n1,e,rfl,E⟩;refine gj (λm=>?_) λm=>?_
  ·refine gr ?_;exact⟨.no m (by rw[n,EX (f:=wCb v i D) (λ_=>rfl) o (by rw[H,w];exact j.trans (E.err m))]),rfl⟩
  obtain⟨rfl,T,F,G,rfl,rfl,rfl⟩:=E.val m;refine gh ?_;refine BB ⟨k+1,T,z,M3⟩ ⟨by show k+1<=_;omega,by rw[EO o,H,w];exact j.trans F,G,s.trans J⟩
 refine gr ?_;exact⟨P.r (by rw[n,G7 (by omega) H]),rfl⟩
end Go.Proofs.YtjheijhahehnmaaGreatDoor
