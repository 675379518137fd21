/- Walks: packages trim and share. No statement of the seat is proved here. -/
import Derived.Test.YtjheijhahehnmaaGreatDoorZCg
import Derived.Test.YtjheijhahehnmaaGreatDoorZFc
namespace Go.Proofs.YtjheijhahehnmaaGreatDoor
open Go.Proofs.Tryz
open List (replicate length_replicate length_take length_drop map_take map_drop length length_nil foldl_append getD range)
set_option linter.unusedSimpArgs false
set_option linter.unusedVariables false
set_option linter.unusedSectionVars false
set_option maxHeartbeats 40000000
set_option maxRecDepth 8000
open Go.RowKit
def ByR(r:Option (List By))(u:Value)(M':Mem):Prop:=∃s e,u=.tuple #[s,.int .i64 e]/\Rs r e λl=>BS M' s l
theorem Vb:replicate 128 (Value.int .u8 0)=Aa (replicate 128 0):=by simp[Aa]
abbrev RY(x:Pc):List Value:=[.int .i64 x.blk,.int .i64 x.fr,.int .i64 x.to]
theorem J1(x:Pc):(RY x).length=3:=rfl
theorem Ql(x:Pc)(M:Mem):SpecL prog 197 #[.agg (RY x).toArray] M [] λu _ _=>u=.int .i64 (U7 x):=by
 refine sB func197 ntmps197 ?_;intro W;refine gA λa=>?_;iterate 5
  refine gj (λh=>?_) λh=>?_;refine gr ?_;exact congrArg _ (by unfold U7;rw[if_pos (by omega)])
 refine gr ?_;exact congrArg _ (by unfold U7;rw[if_neg (by omega)])
theorem KP{x:Pc}(h:U7 x=0):0<=x.blk/\x.blk<32/\0<=x.fr/\x.fr<x.to/\x.to<=128:=by unfold U7 at h;split at h<;>omega
theorem wMu(n:Int)(M:Mem):SpecL prog 199 #[.int .i64 n] M [] λu _ _=>u=.tuple #[.int .i64 (if n<0\/4096<n then 0 else (n+127) / 128),.int .i64 (if n<0\/4096<n then 2 else 0)]:=by
 refine sB func199 ntmps199 ?_;intro W;refine gj (λa=>?_) λa=>?_
 ·refine gr ?_;rw[if_pos (.inl a),if_pos (.inl a)]
 refine gj (λb=>?_) λb=>?_
 ·refine gr ?_;rw[if_pos (.inr (by omega)),if_pos (.inr (by omega))]
 refine gg ?_;refine lq (wTp rfl rfl rfl rfl (by omega) (by omega) (by omega)) ?_;refine gr ?_;rw[if_neg (by omega),if_neg (by omega),show n+128-1=n+127 by omega]
theorem FU(a n:Int)(k:Nat):E6 a n (k+1)=E6 a n k++RE a n k:=by unfold E6;rw[List.range_succ,List.flatMap_append];simp
theorem GZ(a n:Int):∀k,(E6 a n k).length<=k
 |0=>by simp[E6]
 |k+1=>by
  have:=GZ a n k;rw[FU,List.length_append];unfold RE;split<;>simp<;>omega
theorem RD(a n:Int):∀k,∀x∈E6 a n k,U7 x=0\/32<k
 |0,x,h=>by simp[E6]at h
 |k+1,x,h=>by
  rw[FU]at h;rcases List.mem_append.1 h with h|h
  ·exact (RD a n k x h).imp id (by omega)
  unfold RE at h;split at h
  ·rw [List.mem_singleton.1 h];unfold U7;dsimp only;split<;>omega
  cases h
def PcR(r:Option (List Pc))(u:Value)(M':Mem):Prop:=∃l a c e,u=.tuple #[.slice a l.length c,.int .i64 e]/\l.length<=c/\SM M' a (l.flatMap RY)/\Rs r e (l=·)
theorem Ny(a n:Int)(M:Mem):SpecL prog 121 #[.int .i64 a,.int .i64 n] M [] λu G H=>PcR (HP a n) u G/\H=[]:=by
 refine sB func121 ntmps121 ?_;intro W;refine gj (λC=>?_) λC=>?_
 ·refine gr ?_;exact⟨⟨[],none,0,2,rfl,Nat.le_refl _,SM.nil,.no (by decide) (by unfold HP;rw[if_pos (by omega)])⟩,rfl⟩
 refine gj (λB=>?_) λB=>?_
 ·refine gr ?_;exact⟨⟨[],none,0,2,rfl,Nat.le_refl _,SM.nil,.no (by decide) (by unfold HP;rw[if_pos (by omega)])⟩,rfl⟩
 refine gj (λz=>?_) λz=>?_
 ·refine gr ?_;exact⟨⟨[],none,0,2,rfl,Nat.le_refl _,SM.nil,.no (by decide) (by unfold HP;rw[if_pos (by omega)])⟩,rfl⟩
 refine gj (λy=>?_) λy=>?_
 ·refine gr ?_;exact⟨⟨[],none,0,2,rfl,Nat.le_refl _,SM.nil,.no (by decide) (by unfold HP;rw[if_pos (by omega)])⟩,rfl⟩
 have o:HP a n=some (E6 a n 32):=by unfold HP;rw[if_neg (by omega)]
 refine gh ?_;refine CC (α:=Nat×Value×Lc) (λx=>[(0,.int .i64 a),(1,.int .i64 n),(6,x.2.1),(26,.int .i64 x.1)]) (λ_=>M) (λx=>x.2.2) (λx=>x.1<=32/\Own x.2.1 x.2.2 211 3 (E6 a n x.1).length ((E6 a n x.1).flatMap RY)) (λx=>32-x.1) (0,.slice none 0 0,[]) ⟨by omega,Own.nil _ _⟩ ?_;rintro⟨k,s,R⟩ ⟨l,b⟩;try dsimp only at l b⊢
 have K:=GZ a n k;refine gj (λg=>?_) λg=>?_
 ·refine gg ?_;refine lq (wYr rfl rfl rfl rfl) ?_;refine gg ?_;refine lq (VY rfl rfl rfl rfl) ?_;refine gj (λd=>?_) λd=>?_
  ·refine gg ?_;refine lh (Ab (cs:=[_,_,_]) rfl rfl rfl (by rfl) (by rfl) (by rfl)) ?_;rintro _ _ _ ⟨E,rfl,rfl,rfl⟩;refine lh (AY (R:=R) (m:=1) rfl rfl rfl rfl b rfl (λi v j=>CJ.loc (by simpa using j)) rfl (by rfl) (by simp[Value.oneCell']) (by omega) (by omega)) ?_;rintro h _ _ ⟨rfl,F,rfl,c,_⟩;refine gh ?_;refine BD (k+1,h,F) ⟨by show k+1<=32;omega,by show Own _ _ _ _ (E6 a n (k+1)).length ((E6 a n (k+1)).flatMap _);rw[FU,show RE a n k=[⟨k,max (a-k*128) 0,min (a+n-k*128) 128⟩]from if_pos d,List.length_append,List.flatMap_append];simpa [RY]using c⟩
  refine gh ?_;refine BD (k+1,s,R) ⟨by show k+1<=32;omega,by show Own _ _ _ _ (E6 a n (k+1)).length ((E6 a n (k+1)).flatMap _);rw[FU,show RE a n k=[]from if_neg d,List.append_nil];exact b⟩
 obtain rfl:k=32:=by omega
 obtain⟨J,I,rfl⟩:=b.form;refine gg ?_;refine BK b (by simp) ?_;intro O N L w D f e;cases D;refine gr ?_;exact⟨⟨_,_,_,0,rfl,f,e,.yes _ o rfl⟩,rfl⟩
variable{b w:List By}
theorem SA(h:HT b=some w):w.length=128:=by
 unfold HT at h;split at h
 ·cases h;simp
 split at h
 ·cases h;assumption
 cases h
theorem NO(v:Value)(b:List By)(M:Mem)(h:BS M v b):SpecL prog 196 #[v] M [] λu z s=>(∃w e,u=.tuple #[.agg (Aa w).toArray,.int .i64 e]/\w.length=128/\Rs (HT b) e (w=·))/\s=[]:=by
 obtain⟨a,c,rfl,y,n⟩:=h;by_cases d:b.length=0\/b.length=128
 ·obtain ⟨w,m,l⟩:∃w,HT b=some w/\(Aa (replicate 128 0)).take 0++Aa b++(Aa (replicate 128 0)).drop (0+(Aa b).length)=Aa w:=by
   unfold HT;rcases d with d|d
   ·rw [if_pos d];exact⟨_,rfl,by rw[List.length_eq_zero_iff.1 d];simp[Aa]⟩
   rw[if_neg (by omega),if_pos d];exact⟨_,rfl,by rw[Ad,d];simp[Aa]⟩
  have g:=SA m;rcases d with d|d;all_goals
   refine sB func196 ntmps196 ?_;intro W;refine gA λo=>?_;rw[Vb];refine gt ?_;refine lq (Qe rfl rfl rfl) ?_;refine gg ?_;refine lh (WQ (cs:=Aa b) rfl rfl rfl rfl (by rw[Ad];omega) (n.sj _) (BM _) (by rw[Ad,Ad,length_replicate];omega)) ?_;rintro _ _ _ ⟨rfl,rfl,rfl⟩;rw[l];refine gg ?_;refine lq (A1 (cs:=Aa w) rfl rfl rfl rfl (by rw[Ad];exact g) (λi v k=>CJ.loc (by simpa using k))) ?_;refine DE rfl (Kc rfl rfl rfl rfl (by rw[Ad];exact g) (BM _) (by rw[Ad];exact g)) ?_;rintro _ _ _ ⟨rfl,rfl⟩;refine gh ?_;refine zs rfl ?_ (.cons (.agg rfl rfl (by rw[Ad];exact g)) (.cons (.tmp rfl) .nil));exact⟨⟨w,0,rfl,g,.yes w m rfl⟩,rfl⟩
 obtain⟨w,j,f⟩:∃w:List By,replicate 128 0=w/\w.length=128:=⟨_,rfl,by simp⟩;refine sB func196 ntmps196 ?_;intro W;refine gA λo=>?_;rw[Vb,j];refine gt ?_;refine lq (A1 (cs:=Aa w) rfl rfl rfl rfl (by rw[Ad];exact f) (λi v k=>CJ.loc (by simpa using k))) ?_;refine DE rfl (Kc rfl rfl rfl rfl (by rw[Ad];exact f) (BM _) (by rw[Ad];exact f)) ?_;rintro _ _ _ ⟨rfl,rfl⟩;refine gh ?_;refine zs rfl ?_ (.cons (.agg rfl rfl (by rw[Ad];exact f)) (.cons (.tmp rfl) .nil));exact⟨⟨_,3,rfl,f,.no (by decide) (by unfold HT;rw[if_neg (by omega),if_neg (by omega)])⟩,rfl⟩
theorem wDx(v:Value)(b:List By)(x:Pc)(M:Mem)(h:BS M v b):SpecL prog 128 #[v,.agg (RY x).toArray] M [] λu H I=>ByR (WZ b x) u H/\I=[]:=by
 refine sB func128 ntmps128 ?_;intro W;refine gA λO=>?_;refine gc (NO v b M h) ?_;rintro _ G B ⟨w,e,rfl,o,k⟩;refine gA λE=>?_;refine DE rfl (Kc rfl rfl rfl rfl (by rw[Ad];exact o) (BM _) (length_replicate ..)) ?_;rintro _ _ _ ⟨rfl,rfl⟩;refine gj (λd=>?_) λd=>?_
 ·subst d;obtain⟨_,_,n,rfl⟩:=k.val (by simp);have g:WZ b x=if U7 x=0 then some ((w.drop x.fr.toNat).take (x.to-x.fr).toNat)else none:=by unfold WZ;rw[n];rfl
  refine gQ (Ql x G) ?_;refine gj (λa=>?_) λa=>?_
  ·refine gr ?_;exact⟨⟨_,_,rfl,.no a (by rw[g,if_neg a])⟩,rfl⟩
  have L:=KP (Classical.not_not.1 a);rw[if_pos (Classical.not_not.1 a)]at g;refine gg ?_;refine lq (wYp rfl rfl rfl (.no _) (.of rfl (by omega) rfl) (.of rfl (by omega) rfl) (by omega) (by simp)) ?_;refine Az E (by simp) ?_;intro F z C;have j:=BS.cut (l:=x.fr.toNat) (r:=x.to.toNat) (c:=128) (SM.of_block C) (by omega) (by omega) (by omega) (by omega);refine gC (ET _ _ F j (by rw[length_take,length_drop];omega)) ?_;rintro _ S R y m;obtain⟨K,J,rfl⟩:=m.form;refine gg ?_;refine BK m (by simp) ?_;intro Q P N s D i f;cases D;refine gr ?_;exact⟨⟨_,0,rfl,.yes _ g (by rw[show (x.to-x.fr).toNat=x.to.toNat-x.fr.toNat by omega];exact⟨_,_,rfl,i,f⟩)⟩,rfl⟩
 refine gu ?_;exact⟨⟨_,e,rfl,.no d (by unfold WZ;rw[k.err d];rfl)⟩,rfl⟩
variable{d:List By}
theorem X7{f t:Nat}(b:f<=w.length)(a:t=f+d.length):(Aa w).take (0+f*1)++Aa d++(Aa w).drop (0+f*1+(Aa d).length)=Aa (w.take f++d++w.drop t):=by
 subst a;simp[Aa,map_take,map_drop]
theorem KG(v z:Value)(b d:List By)(x:Pc)(M:Mem)(h:BS M v b)(F:BS M z d):SpecL prog 192 #[v,.agg (RY x).toArray,z] M [] λu O P=>ByR (V3 b x d) u O/\P=[]:=by
 obtain⟨da,U,rfl,E,j⟩:=id F;refine sB func192 ntmps192 ?_;intro W;refine gA λX=>?_;refine gc (NO v b M h) ?_;rintro _ N n ⟨w,e,rfl,D,s⟩;refine gA λo=>?_;refine DE rfl (Kc rfl rfl rfl rfl (by rw[Ad];exact D) (BM _) (length_replicate ..)) ?_;rintro _ _ _ ⟨rfl,rfl⟩;refine gj (λc=>?_) λc=>?_
 ·subst c;obtain⟨_,_,C,rfl⟩:=s.val (by simp);have g:V3 b x d=if U7 x=0/\(d.length:Int)=x.to-x.fr then some (w.take x.fr.toNat++d++w.drop x.to.toNat)else none:=by unfold V3;rw[C];rfl
  refine gQ (Ql x N) ?_;refine gj (λa=>?_) λa=>?_
  ·refine gr ?_;exact⟨⟨_,_,rfl,.no a (by rw[g,if_neg λk=>a k.1])⟩,rfl⟩
  have T:=KP (Classical.not_not.1 a);refine gj (λf=>?_) λf=>?_
  ·refine gr ?_;exact⟨⟨_,_,rfl,.no (by decide) (by rw[g,if_neg λk=>f k.2])⟩,rfl⟩
  rw[if_pos ⟨Classical.not_not.1 a,Classical.not_not.1 f⟩]at g;refine gg ?_;refine lq (Bh (wYp rfl rfl rfl (.no _) (.of rfl (by omega) rfl) (.of rfl (by omega) rfl) (by omega) (by simp)) (v':=.slice (some ⟨o,0+x.fr.toNat*1,none⟩) (x.to.toNat-x.fr.toNat) (128-x.fr.toNat)) (by rw[AH (by omega)])) ?_;refine gg ?_;refine lh (WQ (cs:=Aa d) rfl rfl rfl rfl (by rw[Ad];omega) ((j.mono n).sj _) (BM _) (by rw[Ad,Ad];omega)) ?_;rintro _ _ _ ⟨rfl,rfl,rfl⟩;rw[X7 (t:=x.to.toNat) (by omega) (by omega)];refine gg ?_;refine lq (Qe rfl rfl rfl) ?_;refine Az o (by simp) ?_;intro B I K;have J:(w.take x.fr.toNat++d++w.drop x.to.toNat).length=128:=by simp;omega
  have m:BS B (.slice (some ⟨o,0,none⟩) 128 128) (w.take x.fr.toNat++d++w.drop x.to.toNat):=⟨_,_,by rw[J],by omega,SM.of_block K⟩;refine gC (ET _ _ B m (by omega)) ?_;rintro _ M3 R H y;obtain⟨S,Q,rfl⟩:=y.form;refine gg ?_;refine BK y (by simp) ?_;intro Z Y V G L l i;cases L;refine gr ?_;exact⟨⟨_,0,rfl,.yes _ g ⟨_,_,rfl,l,i⟩⟩,rfl⟩
 refine gu ?_;exact⟨⟨_,e,rfl,.no c (by unfold V3;rw[s.err c];rfl)⟩,rfl⟩
abbrev kcl(k:Ky):List Value:=[.int .u8 k.kind,.int .u32 k.id,.int .u32 k.off]
def Xk(i n:Int):Ky:=if Uu i n=0 then HL i n else⟨0,0,0⟩
theorem Ry(i n:Int)(M:Mem):SpecL prog 282 #[.int .u32 i,.int .i64 n] M [] λu _ _=>u=.tuple #[.agg (kcl (Xk i n)).toArray,.int .i64 (Uu i n)]:=by
 refine sB func282 ntmps282 ?_;intro W;refine gA λk=>?_;have a:(i<1\/1048576<i\/n<0\/32<=n)->Uu i n=2/\Xk i n=⟨0,0,0⟩:=λh=>by
  have e:Uu i n=2:=if_pos h;exact⟨e,by unfold Xk;rw[e];rfl⟩
 refine gj (λg=>?_) λg=>?_
 ·refine gr ?_;obtain⟨d,c⟩:=a (.inl g);rw[d,c];rfl
 refine gj (λe=>?_) λe=>?_
 ·refine gr ?_;obtain⟨d,c⟩:=a (.inr (.inl (by omega)));rw[d,c];rfl
 refine gQ (Ql ⟨n,0,1⟩ M) ?_;refine gj (λb=>?_) λb=>?_
 ·refine gr ?_;obtain⟨d,c⟩:=a (by unfold U7 at b;dsimp only at b;split at b<;>omega);rw[d,c];rfl
 have j:=KP (Classical.not_not.1 b);dsimp only at j;have f:Uu i n=0:=if_neg (by omega);refine gg ?_;refine lq (ED rfl rfl rfl (by rw[IntKind.wrap_u32];omega)) ?_;refine gr ?_;unfold Xk;rw[if_pos f,f];rfl
variable{i:Int}
theorem ME{n:Int}(h:Uu i n=0):Xk i n=HL i n:=if_pos h
def RfR(r:Option (List Int))(u:Value)(M':Mem):Prop:=∃l a e,u=.tuple #[.slice a l.length l.length,.int .i64 e]/\SM M' a (Al l)/\Rs r e (l=·)/\(e=0->l.length=32)
variable{k:Nat}{l:List Int}
theorem rset{v:Int}(hk:k<l.length):(Al l).take (0+k*1)++[Value.int .i64 v]++(Al l).drop (0+k*1+[Value.int .i64 v].length)=Al (l.set k v):=by
 rw[List.set_eq_take_append_cons_drop,if_pos hk];simp[Al,map_take,map_drop]
def wWu(r:List Int)(i:It):List Int:=r.set i.key.off.toNat i.ref
theorem wTi(a:List It)(r:List Int):(a.foldl wWu r).length=r.length:=by
 induction a generalizing r with
 |nil=>rfl
 |cons x c b=>rw[List.foldl_cons,b];simp[wWu]
variable{y:It}
theorem wWd{a b:Int}(h:btw (HL i a) (HL i b) y=true):a<=y.key.off/\y.key.off<=b:=by
 unfold btw HL at h;rw[Bool.and_eq_true]at h;obtain⟨d,c⟩:=h;simp only[Ap,Bool.not_eq_true']at d c;grind
theorem Hw(p:Po)(x:V5)(M:Mem)(h:PW M x p)(v i:Int):SpecL prog 200 #[DH p x,.int .u32 v,.int .u32 i] M [] λu Z L'=>RfR (DV p v i) u Z/\L'=[]:=by
 refine sB func200 ntmps200 ?_;intro W;refine gA λb3=>?_;refine gQ (Ry i 0 M) ?_;refine gA λb8=>?_;refine gj (λg=>?_) λg=>?_
 ·refine gr ?_;exact⟨⟨[],none,_,rfl,SM.nil,.no g (by unfold DV;rw[if_neg g]),λk=>absurd k g⟩,rfl⟩
 have F:=Classical.not_not.1 g;have E:Uu i 31=0:=by have:=Ut F;unfold Uu;rw[if_neg (by omega)]
 have m:DV p v i=(TL p v (HL i 0) (HL i 31)).map λl=>l.foldl wWu (replicate 32 0):=by unfold DV;rw[if_pos F];rfl
 rw[ME F];refine gQ (Ry i 31 M) ?_;rw[ME E];refine ga λX=>?_;refine gc (Gm p x M h v (HL i 0) (HL i 31)) ?_;rintro _ Y S ⟨s,rfl,H⟩;generalize s.v=sv at H⊢;obtain⟨a,c,ps,rfl,hc,y,w,z⟩:=H;refine gj (λf=>?_) λf=>?_
 ·refine gr ?_;exact⟨⟨[],none,_,rfl,SM.nil,.no f (by rw[m,Pp f];rfl),λk=>absurd k f⟩,rfl⟩
 rw[HV f,Option.map_some]at m;have B:=(vrn_fine (p:=p) (q:=v) (a:=HL i 0) (b:=HL i 31)).2;generalize MS p v (HL i 0) (HL i 31)=d at *;refine gA λo=>?_;refine gh ?_;refine CC (α:=Nat) (λk=>[(13,pB o),(40,.slice a d.length c),(41,.int .i64 d.length),(42,.int .i64 k)]) (λ_=>Y) (λk=>[(o,cE (Al ((d.take k).foldl wWu (replicate 32 0))) 391)]) (λk=>k<=d.length) (λk=>d.length-k) 0 (Nat.zero_le _) ?_ (hs:=λ_ h=>h.fewer (by rw[show Al ((d.take 0).foldl wWu (replicate 32 0))=replicate 32 (Value.int .i64 0)by simp[Al]];exact List.sublist_append_left [_] _));rintro k Q;try dsimp only at Q⊢
 have j:((d.take k).foldl wWu (replicate 32 0)).length=32:=by rw[wTi];simp
 refine gj (λD=>?_) λD=>?_
 ·have n:k<d.length:=by omega
  obtain⟨sb,so,U,K⟩:=y.open (by intro e;have:=congrArg length e;rw[Aj Ae 5 Ag,length_nil]at this;have T:=congrArg length w;rw[List.length_map]at T;omega);cases U;obtain⟨J,I,C,N,L⟩:=Aw K w z n;have P:=wWd (B.2 d[k] (List.getElem_mem n)).2.2;refine gg ?_;refine lq (A1 (cs:=E1 d[k] J I) rfl rfl rfl rfl rfl (λi v O=>(C i v O).cj _)) ?_;refine gA λV=>?_;refine gh ?_;refine lq (F7 rfl rfl rfl rfl (by omega)) ?_;refine DE rfl (Ao rfl rfl rfl rfl (cs:=[.int .i64 d[k].ref]) rfl rfl rfl (by rw[Ay,j,Nat.ble_eq];show 0+d[k].key.off.toNat*1+1<=32;omega) (rset (by omega))) ?_;rintro _ _ _ ⟨rfl,rfl⟩;refine gh ?_;rw[show ((d.take k).foldl wWu (replicate 32 0)).set d[k].key.off.toNat d[k].ref=(d.take (k+1)).foldl wWu (replicate 32 0)by rw[List.take_succ_eq_append_getElem n,foldl_append];rfl];refine BD (k+1) (by show k+1<=_;omega)
 obtain rfl:k=d.length:=by omega
 rw[List.take_length]at j⊢;refine gg ?_;refine lq (Qe rfl rfl rfl) ?_;refine gg ?_;refine AF o (by simp) ?_;intro M2 R G;refine gr ?_;exact⟨⟨_,_,0,by rw[j],SM.of_block G,.yes _ m rfl,λ_=>j⟩,rfl⟩
def ItR(r:Option (List It))(i b:Int)(u:Value)(M':Mem):Prop:=∃l sv k e,u=.tuple #[sv,.agg (kcl k).toArray,.int .i64 e]/\NS M' sv l/\Rs r e (l=·)/\(e=0->Uu i b=0/\k=HL i b)/\l.length<=15625
theorem Rz(p:Po)(x:V5)(M:Mem)(h:PW M x p)(v i b:Int):SpecL prog 194 #[DH p x,.int .u32 v,.int .u32 i,.int .i64 b] M [] λu l m=>ItR (Rx p v i b) i b u l/\m=[]:=by
 refine sB func194 ntmps194 ?_;intro W;refine Mo λo n=>?_;refine gQ (Ry i b M) ?_;refine gA λd=>?_;refine gj (λa=>?_) λa=>?_
 ·refine gg ?_;refine D7 [0,1,2,103,4] [(d,cE [.int .u8 (Xk i b).kind,.int .u32 (Xk i b).id,.int .u32 (Xk i b).off] 92)] ?_;refine gr ?_;exact⟨⟨[],_,_,_,rfl,NS.nil,.no a (by unfold Rx;rw[if_neg a]),λk=>absurd k a,Nat.zero_le _⟩,rfl⟩
 have f:=Classical.not_not.1 a;have c:Rx p v i b=TL p v (HL i b) (HL i b):=if_pos f;rw[ME f];refine gh ?_;refine gc (Gm p x M h v (HL i b) (HL i b)) ?_;rintro _ w j ⟨s,rfl,g⟩;refine gg ?_;refine D7 [0,1,2,3,104,5] [(d,cE [.int .u8 (HL i b).kind,.int .u32 (HL i b).id,.int .u32 (HL i b).off] 92)] ?_;refine gr ?_;refine⟨⟨_,_,_,_,rfl,g,?_,λ_=>⟨f,rfl⟩,vrn_fine.2.1⟩,rfl⟩;by_cases e:Lq p v=0
 ·rw [e];exact .yes _ (by rw[c,HV (by simpa using e)]) rfl
 exact .no e (by rw[c,Pp e])
theorem K7(p:Po)(x:V5)(M:Mem)(h:PW M x p)(v i b:Int):SpecL prog 127 #[DH p x,.int .u32 v,.int .u32 i,.int .i64 b] M [] λu M' L'=>ByR (Fg p v i b) u M'/\L'=[]:=by
 refine sB func127 ntmps127 ?_;intro W;refine gA λX=>?_;refine gc (Rz p x M h v i b) ?_;rintro _ Z E ⟨l,sv,k,e,rfl,T,H,hk,P⟩;obtain⟨a,c,ps,rfl,hc,C,w,D⟩:=T;refine gA λY=>?_;refine gj (λf=>?_) λf=>?_
 ·refine gr ?_;exact⟨⟨_,e,rfl,.no f (by unfold Fg;rw[H.err f];rfl)⟩,rfl⟩
 obtain⟨rfl,_,I,rfl⟩:=H.val f;have G:((replicate (128:Int).toNat [Value.int .u8 0]).flatten)=Aa (replicate 128 0):=by simp[Aa]
 cases l with
 |nil=>
  have S:(([]:List It).length:Int)=0:=rfl
  refine gt ?_
  refine lh (D1 rfl rfl rfl rfl (by omega) (by rfl)) ?_;rintro _ _ _ ⟨o,rfl,rfl,rfl⟩
  refine gg ?_
  refine AF o (by simp) ?_
  intro J g m
  refine gr ?_
  exact⟨⟨_,0,rfl,.yes (replicate 128 0) (by unfold Fg;rw[I];rfl) ⟨_,_,by rw[length_replicate];rfl,by decide,by rw[<-G];exact SM.of_block m⟩⟩,rfl⟩
 |cons y F=>
  obtain⟨sb,so,V,K⟩:=C.open (by intro e;have:=congrArg length e;rw[Aj Ae 5 Ag,length_nil]at this;have U:=congrArg length w;rw[List.length_map,List.length_cons]at U;omega)
  cases V
  obtain⟨va,vc,B,N,L⟩:=Aw K w D (k:=0) (by simp)
  have Q:(0:Int)<((y::F).length:Int):=by simp
  have d:Fg p v i b=if y.ref=0 then some (replicate 128 0)else if RC p y.ref false=0 then some (seen p.st y.ref.toNat)else none:=by unfold Fg;rw[I];rfl
  generalize hn:(y::F).length=n at *
  refine gt ?_
  refine lq (Au rfl rfl rfl rfl ((B 3 _ rfl).cj _)) ?_
  refine gj (λj=>?_) λj=>?_
  ·refine gg ?_
   refine lh (D1 rfl rfl rfl rfl (by omega) (by rfl)) ?_;rintro _ _ _ ⟨o,rfl,rfl,rfl⟩
   refine gg ?_
   refine AF o (by simp) ?_
   intro J g m
   refine gr ?_
   exact⟨⟨_,0,rfl,.yes (replicate 128 0) (by rw[d];exact if_pos j) ⟨_,_,by rw[length_replicate];rfl,by decide,by rw[<-G];exact SM.of_block m⟩⟩,rfl⟩
  rw[if_neg (by simpa using j)]at d
  refine gg ?_
  refine D7 [0,1,2,3,4,105,6,7,8,9] [GG X x p.gen p.root p.next] ?_
  refine gg ?_
  refine dq rfl (Au rfl rfl rfl rfl ((B 3 _ rfl).cj _)) ?_
  refine dh rfl (hC (XW p x Z (h.mono E).pt h.dead y.ref)) ?_;rintro _ J _ ⟨g,R,rfl,⟨s,rfl,O⟩,rfl⟩
  refine⟨g,by simp,?_⟩
  refine gr ?_
  refine⟨⟨_,_,rfl,?_⟩,rfl⟩
  by_cases z:RC p y.ref false=0
  ·rw [z];exact .yes _ (by rw[d,if_pos z]) (O z)
  exact .no z (by rw[d,if_neg z])
theorem wZe{p q:Po}{k:Int}(h:(Nl p d).toOption=some (q,k)):q.dead=p.dead/\q.next=p.next:=by
 obtain⟨t,_,rfl,_⟩:=wNe (FE h);exact⟨rfl,rfl⟩
theorem wHx(p:Po)(x:V5)(M:Mem)(h:PW M x p)(d:List By)(f:Value)(z:BS M f d):SpecL prog 283 #[DH p x,f] M [] λu m o=>(∃(y:V5)(g j n i e:Int),u=.tuple #[.agg (Bo y g j n).toArray,.int .i64 i,.int .i64 e]/\Rs (Nl p d).toOption e λq=>PW m y q.1/\g=q.1.gen/\j=q.1.root/\n=q.1.next/\i=q.2)/\o=[]:=by
 refine(wNd p x M h.pt h.dead d f z).mono λu m o ⟨a,w⟩=>⟨?_,w⟩;unfold PoP2 at a;split at a
 ·rename_i e c;exact⟨PP,0,0,0,0,e,a.2,.no a.1 (by rw[c];rfl)⟩
 rename_i q k c;obtain⟨y,rfl,s⟩:=a;have l:(Nl p d).toOption=some (q,k):=by rw[c];rfl
 have b:=wAy h (wZe l);exact⟨y,_,_,_,_,0,rfl,.yes (q,k) l ⟨⟨s,b.1,b.2⟩,rfl,rfl,rfl,rfl⟩⟩
theorem Jq(p:Po)(x:V5)(M:Mem)(h:PW M x p)(v i b:Int)(D:u32 v)(d:List By)(w:Value)(s:BS M w d):SpecL prog 193 #[DH p x,.int .u32 v,.int .u32 i,.int .i64 b,w] M [] λu Q R=>PoR (Ek p v i b d) u Q/\R=[]:=by
 obtain⟨da,S,rfl,I,H⟩:=id s;refine sB func193 ntmps193 ?_;intro W;refine Mo λT O=>?_;refine gQ (Ry i b M) ?_;refine gA λN=>?_;refine gj (λc=>?_) λc=>?_
 ·refine gr ?_;exact⟨.no c (by unfold Ek;rw[if_neg λk=>c k.1]),rfl⟩
 have l:=Classical.not_not.1 c;rw[ME l];refine gj (λj=>?_) λj=>?_
 ·refine gr ?_;exact⟨.no (by decide) (by unfold Ek;rw[if_neg λk=>j (by omega)]),rfl⟩
 have n:Ek p v i b d=(Nl p d).toOption.bind λq=>EQ q.1 v ⟨HL i b,q.2,[]⟩:=by unfold Ek;rw[if_pos ⟨l,by omega⟩]
 refine gh ?_;refine gc (wHx p x M h d _ s) ?_;rintro _ P K ⟨y,g,B,C,m,e,rfl,o⟩;refine gA λL=>?_;refine gj (λa=>?_) λa=>?_
 ·refine gr ?_;exact⟨.no a (by rw[n,o.err a];rfl),rfl⟩
 obtain⟨rfl,⟨q,k⟩,F,G,rfl,rfl,rfl,rfl⟩:=o.val a;refine gc (G2 q y P G v D ⟨HL i b,m,[]⟩ _ BS.nil (Zy l)) ?_;rintro u U J f;obtain⟨z,g,B,C,e,rfl,E⟩:=id f;refine gr ?_;exact⟨by rw[n,F];exact f,rfl⟩
theorem La(p:Po)(x:V5)(M:Mem)(h:PW M x p)(v i b:Int)(s:u32 v):SpecL prog 201 #[DH p x,.int .u32 v,.int .u32 i,.int .i64 b] M [] λu K L=>PoR (FT p v i b) u K/\L=[]:=by
 refine sB func201 ntmps201 ?_;intro W;refine Mo λU T=>?_;refine gc (Rz p x M h v i b) ?_;rintro _ J m ⟨l,N,k,e,rfl,G,o,E,D⟩;obtain⟨a,c,P,rfl,R,w,B,C⟩:=G;refine gA λI=>?_;refine gj (λd=>?_) λd=>?_
 ·refine gr ?_;exact⟨.no d (by unfold FT;rw[o.err d];rfl),rfl⟩
 obtain⟨rfl,_,F,rfl⟩:=o.val d;obtain⟨S,rfl⟩:=E rfl;have f:FT p v i b=if l=[]then some p else PO p v (HL i b):=by unfold FT;rw[F];rfl
 refine gj (λn=>?_) λn=>?_
 ·refine gr ?_;exact⟨(h.mono m).r (by rw[f,if_pos (List.length_eq_zero_iff.1 (by omega))]),rfl⟩
 rw[if_neg (λk=>n (by rw[k];rfl))]at f;refine gc (Nz p x J (h.mono m) v s (HL i b)) ?_;rintro u V H j;obtain⟨z,g,O,Q,e,rfl,y⟩:=id j;refine gr ?_;exact⟨by rw[f];exact j,rfl⟩
variable{k:Nat}{β:Type}{a:Option β}
theorem E4{α:Type}{f:Option β->α->Option β}{l:List α}(hk:k<l.length):(l.take (k+1)).foldl f a=f ((l.take k).foldl f a) l[k]:=by
 rw[List.take_succ_eq_append_getElem hk,foldl_append];rfl
theorem Fj{α:Type}{f:Option β->α->Option β}(b:∀x,f none x=none){l:List α}(hk:k<l.length)(h:f ((l.take k).foldl f a) l[k]=none):l.foldl f a=none:=by
 conv=>lhs;rw[<-List.take_append_drop (k+1) l]
 rw[foldl_append,E4 hk,h];exact Fw b _
variable{b:Option β}
theorem Hu{α:Type}{f:Option β->α->Option β}{l:List α}(hk:¬k<l.length)(h:(l.take k).foldl f a=b):l.foldl f a=b:=by rwa[List.take_of_length_le (by omega)]at h
section
variable{P:Program}{ops:Array Oper}{N:Fs}{F:Fr}{E:Ent}{M:Mem}{L:Lc}{o:Oper}
theorem HF.fz1{W:World}{j:Mem}{K:Value->Nat->Obj->Prop}(h:HF P ops N F ⟨W,[],j⟩ M L o λv d f=>∃b c,K v b c/\M=d/\f=(b,c)::L):HF P ops N F ⟨W,[],j⟩ M L o λv d f=>MLe M d/\f=L/\∃b c,K v b c/\d b=some c:=λa w i g=>
 ⟨(h a w i g).1,λQ=>Oper.wpIn_mono (λy u ⟨v,d,f,e,m,s⟩=>by
  obtain⟨b,c,n,rfl,rfl⟩:=s
  obtain⟨l,k⟩:=m.freeze (by simp)
  exact⟨v,_,L,e,l,k,rfl,b,c,n,by unfold Mem.set;rw[if_pos rfl]⟩) ((h a w i g).2 Q)⟩
end
variable{E:Ent}{F:Fr}{K:Act->World->Prop}{L:Lc}{M:Mem}{N:Fs}{Q:Exit->Act->World->Prop}
theorem jTg{l:Nat}(h:JQ N (.goto l) F E M L Q):JQ N (.goto l) F E M L (Exit.then K Q):=h
abbrev Gs(v i:Int):Value:=.agg #[.int .u32 v,.int .u32 i]
theorem Zx{p:Po}{v i b:Int}{l:List By}(h:Fg p v i b=some l):l.length=128:=by
 unfold Fg at h;obtain⟨c,_,h⟩:=Option.bind_eq_some_iff.1 h;split at h
 ·cases h;simp
 split at h
 ·cases h;simp
 split at h
 ·rename_i d;obtain⟨e,f,a,_⟩:=wQn d;cases h;exact LC (EY e) (by omega)
 cases h
theorem wPy(a n:Int)(M:Mem)(h: -1000000<=a/\a<=1000000):SpecL prog 204 #[.int .i64 a,.int .i64 n] M [] λu _ _=>u=.bool (decide (HJ a n)):=by
 refine sB func204 ntmps204 ?_;intro W;refine gj (λe=>?_) λe=>?_
 ·refine gj (λd=>?_) λd=>?_
  ·refine gj (λc=>?_) λc=>?_
   ·refine gj (λb=>?_) λb=>?_
    ·refine gr ?_;exact congrArg _ (decide_eq_true ⟨by omega,by omega,by omega,by omega⟩).symm
    refine gr ?_;exact congrArg _ (decide_eq_false (by unfold HJ;omega)).symm
   refine gr ?_;exact congrArg _ (decide_eq_false (by unfold HJ;omega)).symm
  refine gr ?_;exact congrArg _ (decide_eq_false (by unfold HJ;omega)).symm
 refine gr ?_;exact congrArg _ (decide_eq_false (by unfold HJ;omega)).symm
theorem wDr(p:Po)(x:V5)(M:Mem)(h:PW M x p)(v i:Int)(j:u32 v)(b k:Int)(hk:Uu i b=0):SpecL prog 206 #[DH p x,Gs v i,.int .i64 b,.int .i64 k] M [] λu s w=>PoR (wEw v i p b k) u s/\w=[]:=by
 refine sB func206 ntmps206 ?_;intro W;refine Zh λC B y=>?_;refine gj (λc=>?_) λc=>?_
 ·refine gc (La p x M h v i b j) ?_;rintro u o f a;obtain⟨z,g,l,m,e,rfl,d⟩:=id a;refine gr ?_;exact⟨by unfold wEw;rw[if_pos c];exact a,rfl⟩
 refine gQ (Ry i b M) ?_;rw[ME hk];refine ga λn=>?_;refine gc (G2 p x M h v j ⟨HL i b,k,[]⟩ _ BS.nil (Zy hk)) ?_;rintro u o f a;obtain⟨z,g,l,m,e,rfl,d⟩:=id a;refine gr ?_;exact⟨by unfold wEw;rw[if_neg c];exact a,rfl⟩
theorem Xu(p:Po)(x:V5)(M:Mem)(h:PW M x p)(k:Int):SpecL prog 287 #[DH p x,.int .i64 k] M [] λu c d=>PoR (wEq p k) u c/\d=[]:=
 (Vg p x M h.pt h.dead k).mono λ_ _ _ b=>⟨b.1.r λq a=>wAy h (by
  unfold T2 at a
  split at a
  ·split at a
   ·cases a
   cases a;exact⟨rfl,rfl⟩
  cases a),b.2⟩
structure Hld where
 k:Nat
 q:Po
 y:V5
 M:Mem
theorem wGq(p:Po)(x:V5)(M:Mem)(h:PW M x p)(l:List Int)(a:Option Addr)(c:Nat)(hs:SM M a (Al l))(T:l.length<=1000):SpecL prog 205 #[DH p x,.slice a l.length c] M [] λu N O=>PoR (l.foldl Kv (some p)) u N/\O=[]:=by
 refine sB func205 ntmps205 ?_;intro W;refine Mo λF E=>?_;refine CC (α:=Hld) (λz=>[(2,pB F),(4,pB E),(10,.slice a l.length c),(11,.int .i64 l.length),(12,.int .i64 z.k)]) (λz=>z.M) (λz=>[GG E PP 0 0 0,GG F z.y z.q.gen z.q.root z.q.next]) (λz=>z.k<=l.length/\(l.take z.k).foldl Kv (some p)=some z.q/\PW z.M z.y z.q/\MLe M z.M) (λz=>l.length-z.k) ⟨0,p,x,M⟩ ⟨Nat.zero_le _,rfl,h,MLe.refl _⟩ ?_;rintro⟨k,q,y,G⟩ ⟨J,m,n,d⟩;try dsimp only at J m n d⊢
 refine gj (λC=>?_) λC=>?_
 ·have b:k<l.length:=by omega
  obtain⟨Q,P,K,I⟩:=hs.open (by intro e;have:=congrArg length e;rw[Ay,length_nil]at this;omega);cases K;have w:l[k]=l.getD k 0:=by simp[getD,b]
  refine gg ?_;refine lq (Au rfl rfl rfl rfl (((I _ (.int .i64 l[k]) (by rw[Nat.mul_one,w];exact Uj b)).mono d).cj _)) ?_;refine gj (λi=>?_) λi=>?_
  ·refine gh ?_;refine BD ⟨k+1,q,y,G⟩ ⟨by show k+1<=_;omega,by rw[E4 b,m];show Kv _ _=_;unfold Kv;rw[Option.bind_some,if_pos i],n,d⟩
  have j:Kv (some q) l[k]=wEq q l[k]:=by unfold Kv;rw[Option.bind_some,if_neg i]
  refine gc (Xu q y G n l[k]) ?_;rintro u L B ⟨z,g,R,S,e,rfl,D⟩;refine gA λU=>?_;refine gj (λf=>?_) λf=>?_
  ·refine gr ?_;exact⟨.no f (Fj (λ_=>rfl) b (by rw[m,j,D.err f])),rfl⟩
  obtain⟨rfl,H,o,s,rfl,rfl,rfl⟩:=D.val f;refine gh ?_;refine BD ⟨k+1,H,z,L⟩ ⟨by show k+1<=_;omega,by rw[E4 b,m,j,o],s,d.trans B⟩
 refine gr ?_;exact⟨n.r (Hu (by omega) m),rfl⟩
theorem Xm(p:Po)(x:V5)(M:Mem)(h:PW M x p)(H I b v i a n:Int)(hv:u32 v)(hb: -1000000<=b/\b<=1000000)(ha: -1000000<=a/\a<=1000000):SpecL prog 135 #[DH p x,Gs H I,.int .i64 b,Gs v i,.int .i64 a,.int .i64 n] M [] λu M' L'=>PoR (LD p H I b v i a n) u M'/\L'=[]:=by
 refine sB func135 ntmps135 ?_;intro W;refine gA4 λb6 b7 b9 U=>?_;refine gQ (wPy b n M hb) ?_;by_cases T:HJ b n;rotate_left
 ·rw [decide_eq_false T];refine gr ?_;exact⟨.no (by decide) (by unfold LD;rw[if_neg λk=>T k.1]),rfl⟩
 rw[decide_eq_true T];refine gQ (wPy a n M ha) ?_;by_cases S:HJ a n;rotate_left
 ·rw [decide_eq_false S];refine gr ?_;exact⟨.no (by decide) (by unfold LD;rw[if_neg λk=>S k.2]),rfl⟩
 rw[decide_eq_true S];have c:LD p H I b v i a n=(DV p H I).bind λE=>(DV p v i).bind λ_=>(((E.drop b.toNat).take n.toNat).foldl Kv (some p)).bind λq=>(((E.drop b.toNat).take n.toNat).foldl (We v i a) (some (q,0))).map (·.1):=if_pos ⟨T,S⟩;refine gg ?_;refine gc (Hw p x M h H I) ?_;rintro _ M1 R ⟨l,X,e,rfl,hs,N,P⟩;refine gj (λD=>?_) λD=>?_;rotate_left
 ·refine gu ?_;exact⟨.no D (by rw[c,N.err D];rfl),rfl⟩
 subst D;obtain⟨_,_,Y,rfl⟩:=N.val (by simp);have hl:=P rfl;rw[Y,Option.bind_some]at c;refine gc (Hw p x M1 (h.mono R) v i) ?_;rintro _ M2 Q ⟨l2,al,e2,rfl,am,L,aq⟩;refine gj (λC=>?_) λC=>?_
 ·refine gr ?_;exact⟨.no C (by rw[c,L.err C];rfl),rfl⟩
 obtain⟨rfl,_,j,rfl⟩:=L.val C;rw[j,Option.bind_some]at c;have ad:Uu i 0=0:=by unfold DV at j;split at j;assumption;cases j
 obtain⟨au,aj,ao,ai⟩:=id T;obtain⟨aw,ak,_,av⟩:=id S;rw[hl];have O:((l.drop b.toNat).take n.toNat).length=n.toNat:=by rw[length_take,length_drop];omega
 have F:SM M2 (HE X b.toNat (b+n).toNat 1) (Al ((l.drop b.toNat).take n.toNat)):=by
  by_cases hn:n=0
  ·rw [hn];exact .inl (by simp[Al])
  have:=(hs.mono Q).part (l:=b.toNat) (m:=(b+n).toNat) (s:=1) (by omega) n.toNat;rw[Nat.mul_one]at this;unfold Al at this⊢;rw[map_take,map_drop];exact this
 generalize ap:(l.drop b.toNat).take n.toNat=d at c O F;refine gg ?_;refine lq (Bh (CL rfl rfl rfl (.of (v:=(b+n).toNat) rfl (by omega) (by omega)) (.of (v:=(b+n).toNat) rfl (by omega) (by omega)) (.of (v:=b.toNat) rfl (by omega) (by omega)) (by omega) (by simp)) (v':=.slice (HE X b.toNat (b+n).toNat 1) d.length d.length) (by rw[O,show (b+n).toNat-b.toNat=n.toNat by omega])) ?_;refine gc (wGq p x M2 (h.mono (R.trans Q)) d _ _ F (by omega)) ?_;rintro _ M3 ag ⟨y,g,r1,n1,e,rfl,K⟩;refine gj (λB=>?_) λB=>?_
 ·refine gr ?_;exact⟨.no B (by rw[c,K.err B];rfl),rfl⟩
 obtain⟨rfl,q0,aa,ac,rfl,rfl,rfl⟩:=K.val B;rw[aa,Option.bind_some]at c;refine gh ?_;refine CC (α:=Hld) (λz=>[(4,.int .i64 a),(6,pB b6),(9,pB b9),(12,pB U),(72,.slice (HE X b.toNat (b+n).toNat 1) d.length d.length),(73,.int .i64 d.length),(74,.int .i64 z.k)]) (λz=>z.M) (λz=>[GG U PP 0 0 0,(b9,cE [.int .u32 v,.int .u32 i] 123),GG b6 z.y z.q.gen z.q.root z.q.next]) (λz=>z.k<=d.length/\(d.take z.k).foldl (We v i a) (some (q0,0))=some (z.q,(z.k:Int))/\PW z.M z.y z.q/\MLe M2 z.M) (λz=>d.length-z.k) ⟨0,q0,y,M3⟩ ⟨Nat.zero_le _,rfl,ac,ag⟩ ?_ (hs:=λ_ h=>h.fewer (.cons_cons _ (.cons_cons _ (.cons _ (.refl _)))));rintro⟨k,q,y,Mk⟩ ⟨hk,V,hq,G⟩;try dsimp only at hk V hq G⊢
 refine gj (λah=>?_) λah=>?_
 ·have o:k<d.length:=by omega
  obtain⟨sb,so,e0,hx⟩:=F.open (by intro e;have:=congrArg length e;rw[Ay,length_nil]at this;omega);rw[e0];have ae:d[k]=d.getD k 0:=by simp[getD,o]
  refine gg ?_;refine lq (Au rfl rfl rfl rfl (((hx _ (.int .i64 d[k]) (by rw[Nat.mul_one,ae];exact Uj o)).mono G).cj _)) ?_;have J:We v i a (some (q,(k:Int))) d[k]=(wEw v i q (a+k) d[k]).map λq=>(q,(k:Int)+1):=rfl;refine gc (wDr q y Mk hq v i hv (a+k) d[k] (by have:=Ut ad;unfold Uu;rw[if_neg (by omega)])) ?_;rintro u M4 af ⟨z,g,r1,n1,e,rfl,N⟩;refine gj (λw=>?_) λw=>?_
  ·refine gr ?_;exact⟨.no w (by rw[c,Fj (f:=We v i a) (λ_=>rfl) o (by rw[V,J,N.err w];rfl)];rfl),rfl⟩
  obtain⟨rfl,q2,Z,ab,rfl,rfl,rfl⟩:=N.val w;refine gh ?_;rw[<-e0];refine BD ⟨k+1,q2,z,M4⟩ ⟨by show k+1<=_;omega,by rw[E4 o,V,J,Z];rfl,ab,G.trans af⟩
 refine gr ?_;exact⟨hq.r (by rw[c,Hu (by omega) V];rfl),rfl⟩
theorem wRp(b:By)(M:Mem):SpecL prog 286 #[.int .u8 b.toNat] M [] λu _ _=>u=.bool (decide (b≠0)):=by
 refine sB func286 ntmps286 ?_;intro W;have a:(b.toNat:Int)≠0↔b≠0:=by
  constructor
  ·intro h e;subst e;exact h rfl
  intro h e;apply h;apply UInt8.toNat_inj.1;show b.toNat=0;omega
 refine gr ?_;exact congrArg _ (decide_eq_decide.2 a)
theorem RQ(p:Po)(x:V5)(M:Mem)(h:PW M x p)(v i:Int)(hv:u32 v)(c:Pc)(hc:U7 c=0)(F:Bool):SpecL prog 202 #[DH p x,Gs v i,.agg (RY c).toArray,.bool F] M [] λu Y Z=>PoR (Gx p v i c F) u Y/\Z=[]:=by
 have aa:=KP hc;refine sB func202 ntmps202 ?_;intro W;refine gA4 λb4 b5 b6 b8=>?_;refine gc (K7 p x M h v i c.blk) ?_;rintro _ M1 E ⟨s,e,rfl,hr⟩;refine gj (λo=>?_) λo=>?_
 ·refine gr ?_;exact⟨.no o (by unfold Gx;rw[hr.err o];rfl),rfl⟩
 obtain⟨rfl,b,hb,D⟩:=hr.val o;have hl:=Zx hb;have f:Gx p v i c F=if F=false/\((b.drop c.fr.toNat).take (c.to-c.fr).toNat).all (· =0)then some p else (V3 b c (replicate (c.to-c.fr).toNat 0)).bind λd=>Ek p v i c.blk d:=by unfold Gx;rw[hb];rfl
 obtain⟨sa,sc,rfl,J,I⟩:=id D;cases F with
 |false=>
  refine gg ?_
  refine lq (CL rfl rfl rfl (.no _) (.of rfl (by omega) rfl) (.of rfl (by omega) rfl) (by omega) (by simp)) ?_
  have w:=BS.cut (l:=c.fr.toNat) (r:=c.to.toNat) I J (by omega) (by omega) (by omega)
  rw[show c.to.toNat-c.fr.toNat=(c.to-c.fr).toNat by omega]at w
  obtain⟨ca,cc,e9,ab,O⟩:=w
  rw[show c.to.toNat-c.fr.toNat=(c.to-c.fr).toNat by omega,e9]
  refine gQ (TG _ ca cc _ (λb=>decide (b≠0)) M1 O (by kernel_rfl) (λb=>wRp b M1) (by rw[length_take,length_drop];omega)) ?_
  have y:((b.drop c.fr.toNat).take (c.to-c.fr).toNat).all (· =0)= !((b.drop c.fr.toNat).take (c.to-c.fr).toNat).any λb=>decide (b≠0):=by rw[List.not_any_eq_all_not];congr 1;funext x;simp
  cases ha:((b.drop c.fr.toNat).take (c.to-c.fr).toNat).any λb=>decide (b≠0)with
  |false=>
   refine gr ?_
   exact⟨(h.mono E).r (by rw[f,if_pos ⟨rfl,by rw[y,ha];rfl⟩]),rfl⟩
  |true=>
   rw[if_neg (by rw[y,ha];simp)]at f
   refine gg ?_
   refine D7 [0,1,2,3,4,5,6,107,108,9,10,11,12,13] [(b6,cE (RY c) 211)] ?_
   refine gg ?_
   refine dh rfl (HF.fz1 (K:=λv b H=>v=.slice (some ⟨b,0,none⟩) (c.to-c.fr).toNat (c.to-c.fr).toNat/\H=cE ((replicate (c.to-c.fr).toNat [Value.int .u8 0]).flatten) 5) (HF.imp (D1 rfl rfl rfl rfl (by omega) (by rfl)) λv Y Z ⟨b,T,S,Q⟩=>⟨b,_,⟨T,rfl⟩,S,Q⟩)) ?_;rintro _ G _ ⟨j,rfl,V,_,⟨rfl,rfl⟩,U⟩
   refine⟨j,by simp,?_⟩
   have B:BS G (.slice (some ⟨V,0,none⟩) (c.to-c.fr).toNat (c.to-c.fr).toNat) (replicate (c.to-c.fr).toNat 0):=⟨_,_,by rw[length_replicate],by rw[length_replicate];exact Nat.le_refl _,by rw[show Aa (replicate (c.to-c.fr).toNat 0)=(replicate (c.to-c.fr).toNat [Value.int .u8 0]).flatten by simp[Aa]];exact SM.of_block U⟩
   refine gg ?_
   refine dh rfl (hC (KG _ _ b _ c G (D.mono j) B)) ?_;rintro _ X _ ⟨n,R,rfl,⟨s3,e3,rfl,k⟩,rfl⟩
   refine⟨n,by simp,?_⟩
   refine gg ?_
   refine gj (λa=>?_) λa=>?_
   ·refine gr ?_
    exact⟨.no a (by rw[f,k.err a];rfl),rfl⟩
   obtain⟨rfl,d,N,C⟩:=k.val a
   refine gc (Jq p x X (h.mono ((E.trans j).trans n)) v i c.blk hv d _ C) ?_;rintro u M4 P m
   obtain⟨z,g,r1,n1,e,rfl,L⟩:=id m
   refine gr ?_
   exact⟨by rw[f,N];exact m,rfl⟩
 |true=>
  rw[if_neg (by simp)]at f
  refine gg ?_
  refine D7 [0,1,2,3,4,5,6,107,108,9,10,11,12,13] [(b6,cE (RY c) 211)] ?_
  refine gg ?_
  refine dh rfl (HF.fz1 (K:=λv b H=>v=.slice (some ⟨b,0,none⟩) (c.to-c.fr).toNat (c.to-c.fr).toNat/\H=cE ((replicate (c.to-c.fr).toNat [Value.int .u8 0]).flatten) 5) (HF.imp (D1 rfl rfl rfl rfl (by omega) (by rfl)) λv Y Z ⟨b,T,S,Q⟩=>⟨b,_,⟨T,rfl⟩,S,Q⟩)) ?_;rintro _ G _ ⟨j,rfl,V,_,⟨rfl,rfl⟩,U⟩
  refine⟨j,by simp,?_⟩
  have B:BS G (.slice (some ⟨V,0,none⟩) (c.to-c.fr).toNat (c.to-c.fr).toNat) (replicate (c.to-c.fr).toNat 0):=⟨_,_,by rw[length_replicate],by rw[length_replicate];exact Nat.le_refl _,by rw[show Aa (replicate (c.to-c.fr).toNat 0)=(replicate (c.to-c.fr).toNat [Value.int .u8 0]).flatten by simp[Aa]];exact SM.of_block U⟩
  refine gg ?_
  refine dh rfl (hC (KG _ _ b _ c G (D.mono j) B)) ?_;rintro _ X _ ⟨n,R,rfl,⟨s3,e3,rfl,k⟩,rfl⟩
  refine⟨n,by simp,?_⟩
  refine gg ?_
  refine gj (λa=>?_) λa=>?_
  ·refine gr ?_
   exact⟨.no a (by rw[f,k.err a];rfl),rfl⟩
  obtain⟨rfl,d,N,C⟩:=k.val a
  refine gc (Jq p x X (h.mono ((E.trans j).trans n)) v i c.blk hv d _ C) ?_;rintro u M4 P m
  obtain⟨z,g,r1,n1,e,rfl,L⟩:=id m
  refine gr ?_
  exact⟨by rw[f,N];exact m,rfl⟩
variable{n:Int}
theorem wTc(h:¬(n<0\/4096<n)):0<=n/\n<=4096/\0<=(n+127) / 128/\(n+127) / 128<=32/\0<=n%128/\n%128<128/\(0<n%128->1<=(n+127) / 128):=by omega
structure Tci where
 k:Nat
 q:Po
 y:V5
 M:Mem
 l:List Int
 a:Option Addr
theorem wYn{f j:Nat}(h:j<((range 32).drop f).length):((range 32).drop f)[j]=f+j:=by simp
theorem SG(p:Po)(x:V5)(M:Mem)(h:PW M x p)(v i:Int)(hv:u32 v)(n:Int):SpecL prog 130 #[DH p x,Gs v i,.int .i64 n] M [] λu M' L'=>PoR (HY p v i n) u M'/\L'=[]:=by
 refine sB func130 ntmps130 ?_;intro W;refine Zh λb3 b4 b6=>?_;by_cases E:n<0\/4096<n
 ·refine QN ?_;refine gQ (wMu n M) ?_;rw[if_pos E,if_pos E];refine gt ?_;refine jN (λ_ h=>by cases h) ?_;refine gr ?_;exact⟨.no (by decide) (if_pos E),rfl⟩
 have K:=wTc E;generalize L:(n+127) / 128=fi at K;obtain⟨f,rfl⟩:∃f:Nat,fi=f:=⟨fi.toNat,by omega⟩;have b:HY p v i n=(DV p v i).bind λw=>(((range 32).drop f).foldl (wQq v i w) (some p)).bind λq=>if 0<n%128/\w.getD (f-1) 0≠0 then Gx q v i ⟨f-1,n%128,128⟩ false else some q:=by unfold HY;rw[if_neg E,L];rfl
 have ab:((range 32).drop f).length=32-f:=by simp
 refine YX (α:=Tci) 0 (λz=>[(2,.int .i64 n),(3,pB b3),(4,pB b4),(6,pB b6),(8,.int .i64 (f:Int)),(10,.slice z.a z.l.length z.l.length),(11,.int .i64 (z.k:Int))]) (λz=>z.M) (λz=>[GG b6 PP 0 0 0,(b4,cE [.int .u32 v,.int .u32 i] 123),GG b3 z.y z.q.gen z.q.root z.q.next]) (λz=>DV p v i=some z.l/\z.l.length=32/\SM z.M z.a (Al z.l)/\f<=z.k/\z.k<=32/\PW z.M z.y z.q/\(((range 32).drop f).take (z.k-f)).foldl (wQq v i z.l) (some p)=some z.q) (λz=>32-z.k) 1000 rfl ?_ (λhp=>?_)
 ·rintro ⟨k,q,y,X,l,ra⟩ b0 ⟨c,J,F,T,hk,G,N⟩ U;try dsimp only at c J F T hk G N U⊢
  rw[c,Option.bind_some]at b;obtain⟨Z,Y,rfl,hx⟩:=F.open (by intro e;have:=congrArg length e;rw[Ay,length_nil]at this;omega);refine gj (λV=>?_) λV=>?_
  ·have S:k<l.length:=by omega
   have O:k-f<((range 32).drop f).length:=by omega
   refine gg ?_;refine lq (Au rfl rfl rfl rfl ((hx _ (.int .i64 (l.getD k 0)) (by rw[Nat.mul_one];exact Uj S)).cj _)) ?_;have d:wQq v i l (some q) ((range 32).drop f)[k-f]=if l.getD k 0≠0 then FT q v i k else some q:=by rw[wYn O,show f+(k-f)=k by omega];rfl
   have B:k+1-f=k-f+1:=by omega
   refine gj (λD=>?_) λD=>?_
   ·rw [if_pos D]at d;refine gc (La q y X G v i k hv) ?_;rintro _ P j ⟨z,g,r1,n1,e,rfl,H⟩;refine gj (λo=>?_) λo=>?_
    ·refine gh ?_;refine jJ (λ_ h=>by cases h) ?_;refine gr ?_;exact⟨.no o (by rw[b,Fj (f:=wQq v i l) (λ_=>rfl) O (by rw[N,d,H.err o])];rfl),rfl⟩
    obtain⟨rfl,q2,Q,R,rfl,rfl,rfl⟩:=H.val o;refine gh ?_;refine wBn ?_;refine jTg ?_;refine wNq ⟨k+1,q2,z,P,l,some ⟨Z,Y,none⟩⟩ (by repeat (first|exact .nil|refine .cons rfl ?_)) ⟨c,J,F.mono j,by show f<=k+1;omega,by show k+1<=32;omega,R,by show (((range 32).drop f).take (k+1-f)).foldl _ _=_;rw[B,E4 O,N,d,Q]⟩ (by show 32-(k+1)<b0;omega) (λ_ h=>h)
   rw[if_neg D]at d;refine gh ?_;refine wBn ?_;refine jTg ?_;refine wNq ⟨k+1,q,y,X,l,some ⟨Z,Y,none⟩⟩ (by repeat (first|exact .nil|refine .cons rfl ?_)) ⟨c,J,F,by show f<=k+1;omega,by show k+1<=32;omega,G,by show (((range 32).drop f).take (k+1-f)).foldl _ _=_;rw[B,E4 O,N,d]⟩ (by show 32-(k+1)<b0;omega) (λ_ h=>h)
  rw[Hu (by omega) N,Option.bind_some]at b;refine gg ?_;refine lq (wYq rfl rfl rfl rfl (by omega) (by omega)) ?_;refine gj (λm=>?_) λm=>?_
  ·have ac:=K.2.2.2.2.2.2 m;have e1:((f:Int)-1).toNat=f-1:=by omega
   refine gg ?_;refine lq (Au rfl rfl rfl rfl ((hx _ (.int .i64 (l.getD (f-1) 0)) (by rw[Nat.mul_one,e1];exact Uj (by omega))).cj _)) ?_;refine gj (λC=>?_) λC=>?_
   ·rw [if_pos ⟨m,C⟩]at b;refine gc (RQ q y X G v i hv ⟨f-1,n%128,128⟩ (by unfold U7;rw[if_neg (by dsimp only;omega)]) false) ?_;rintro u P j I;obtain⟨z,g,r1,n1,e,rfl,aa⟩:=id I;refine gh ?_;refine jJ (λ_ h=>by cases h) ?_;refine gr ?_;exact⟨by rw[b];exact I,rfl⟩
   refine gh ?_;refine jJ (λ_ h=>by cases h) ?_;refine gr ?_;exact⟨G.r (by rw[b,if_neg λk=>C k.2]),rfl⟩
  refine gh ?_;refine jJ (λ_ h=>by cases h) ?_;refine gr ?_;exact⟨G.r (by rw[b,if_neg λk=>m k.1]),rfl⟩
 refine gQ (wMu n M) ?_;rw[if_neg E,if_neg E,L];refine gt ?_;refine gc (Hw p x M h v i) ?_;rintro _ P j ⟨l,ra,e,rfl,F,H,J⟩;refine gj (λs=>?_) λs=>?_
 ·refine gh ?_;refine jJ (λ_ h=>by cases h) ?_;refine gr ?_;exact⟨.no s (by rw[b,H.err s];rfl),rfl⟩
 obtain⟨rfl,_,c,rfl⟩:=H.val s;refine gh ?_;refine QP ?_;refine jT ?_;exact wUy (by repeat (first|exact .nil|refine .cons rfl ?_)) (Cf (λ_ h=>h) (hp ⟨f,p,x,P,l,ra⟩ ⟨c,J rfl,F,Nat.le_refl _,by show f<=32;omega,h.mono j,by show (((range 32).drop f).take (f-f)).foldl _ _=_;rw[Nat.sub_self];rfl⟩ (by show 32-f<=1000;omega)))
theorem wDi(p:Po)(x:V5)(M:Mem)(h:PW M x p)(v i:Int)(S:u32 v)(a b:Int)(ae: -1000000<=a/\b<=1000000):SpecL prog 133 #[DH p x,Gs v i,.int .i64 a,.int .i64 b] M [] λu M' L'=>PoR (SF p v i a b) u M'/\L'=[]:=by
 refine sB func133 ntmps133 ?_;intro W;refine Zh λb4 b5 b8=>?_;refine gj (λh1=>?_) λh1=>?_
 ·refine gr ?_;exact⟨.no (by decide) (if_pos (.inl h1)),rfl⟩
 refine gj (λh2=>?_) λh2=>?_
 ·refine gr ?_;exact⟨.no (by decide) (if_pos (.inr h2)),rfl⟩
 have n:SF p v i a b=(HP a (b-a)).bind λl=>(DV p v i).bind λN=>l.foldl (wEp v i N) (some p):=if_neg (by omega);refine gc (Ny a (b-a) M) ?_;rintro _ M1 R ⟨l,la,lc,e,rfl,ad,Y,E⟩;refine gj (λC=>?_) λC=>?_
 ·refine gr ?_;exact⟨.no C (by rw[n,E.err C];rfl),rfl⟩
 obtain⟨rfl,_,d,rfl⟩:=E.val C;rw[d,Option.bind_some]at n;have ac:l.length<=32:=by
  unfold HP at d;split at d
  ·cases d
  cases d;exact GZ _ _ 32
 have X:∀c∈l,U7 c=0:=λc hc=>by
  unfold HP at d;split at d
  ·cases d
  cases d;exact(RD _ _ 32 c hc).resolve_right (by decide)
 refine gc (Hw p x M1 (h.mono R) v i) ?_;rintro _ M2 Q ⟨D,ra,e2,rfl,hs,O,Z⟩;refine gj (λB=>?_) λB=>?_
 ·refine gr ?_;exact⟨.no B (by rw[n,O.err B];rfl),rfl⟩
 obtain⟨rfl,_,V,rfl⟩:=O.val B;rw[V,Option.bind_some]at n;have hl:=Z rfl;obtain⟨rb,ro,rfl,U⟩:=hs.open (by intro e;have:=congrArg length e;rw[Ay,length_nil]at this;omega);refine gh ?_;refine CC (α:=Hld) (λz=>[(4,pB b4),(5,pB b5),(8,pB b8),(11,.int .i64 0),(12,.slice (some ⟨rb,ro,none⟩) D.length D.length),(48,.slice la l.length lc),(49,.int .i64 l.length),(50,.int .i64 z.k)]) (λz=>z.M) (λz=>[GG b8 PP 0 0 0,(b5,cE [.int .u32 v,.int .u32 i] 123),GG b4 z.y z.q.gen z.q.root z.q.next]) (λz=>z.k<=l.length/\(l.take z.k).foldl (wEp v i D) (some p)=some z.q/\PW z.M z.y z.q/\MLe M2 z.M) (λz=>l.length-z.k) ⟨0,p,x,M2⟩ ⟨Nat.zero_le _,rfl,h.mono (R.trans Q),MLe.refl _⟩ ?_;rintro⟨k,q,y,Mk⟩ ⟨hk,H,P,s⟩;try dsimp only at hk H P s⊢
 refine gj (λab=>?_) λab=>?_
 ·have o:k<l.length:=by omega
  obtain⟨sb,so,e0,hx⟩:=(Y.mono Q).open (by intro e;have:=congrArg length e;rw[Aj RY 3 J1,length_nil]at this;omega);cases e0;have d:=Bs RY 3 J1 hx (List.getElem?_eq_getElem o);have I:=X l[k] (List.getElem_mem o);have aa:=KP I;have j:wEp v i D (some q) l[k]=if D.getD l[k].blk.toNat 0=0 then some q else if l[k].to-l[k].fr=128 then FT q v i l[k].blk else Gx q v i l[k] true:=rfl
  generalize w:l[k]=c at d I aa j;refine gg ?_;refine lq (A1 (cs:=RY c) rfl rfl rfl rfl rfl (λi v S=>((d i v S).mono s).cj _)) ?_;refine gA λaf=>?_;refine lq (Au rfl rfl rfl rfl (((U _ (.int .i64 (D.getD c.blk.toNat 0)) (by rw[Nat.mul_one];exact Uj (by omega))).mono s).cj _)) ?_;refine gj (λL=>?_) λL=>?_
  ·rw [if_pos L]at j;refine gh ?_;refine wXe rfl ?_;refine gh ?_;refine BD ⟨k+1,q,y,Mk⟩ ⟨by show k+1<=_;omega,by rw[E4 o,H,w];exact j,P,s⟩
  rw[if_neg L]at j;refine gj (λK=>?_) λK=>?_
  ·rw [if_pos K]at j;refine gc (La q y Mk P v i c.blk S) ?_;rintro _ M3 J ⟨z,g,r1,n1,e,rfl,E⟩;refine gj (λm=>?_) λm=>?_
   ·refine gr ?_;exact⟨.no m (by rw[n,Fj (f:=wEp v i D) (λ_=>rfl) o (by rw[H,w];exact j.trans (E.err m))]),rfl⟩
   obtain⟨rfl,T,F,G,rfl,rfl,rfl⟩:=E.val m;refine gh ?_;refine BD ⟨k+1,T,z,M3⟩ ⟨by show k+1<=_;omega,by rw[E4 o,H,w];exact j.trans F,G,s.trans J⟩
  rw[if_neg K]at j;refine gc (RQ q y Mk P v i S c I true) ?_;rintro _ M3 J ⟨z,g,r1,n1,e,rfl,E⟩;refine gj (λm=>?_) λm=>?_
  ·refine gr ?_;exact⟨.no m (by rw[n,Fj (f:=wEp v i D) (λ_=>rfl) o (by rw[H,w];exact j.trans (E.err m))]),rfl⟩
  obtain⟨rfl,T,F,G,rfl,rfl,rfl⟩:=E.val m;refine gh ?_;refine BD ⟨k+1,T,z,M3⟩ ⟨by show k+1<=_;omega,by rw[E4 o,H,w];exact j.trans F,G,s.trans J⟩
 refine gr ?_;exact⟨P.r (by rw[n,Hu (by omega) H]),rfl⟩
end Go.Proofs.YtjheijhahehnmaaGreatDoor
