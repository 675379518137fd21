/- Walks: stores made. -/
import Derived.Test.YtdahhoicackcaaaGreatZHn
import Derived.Test.YtdahhoicackcaaaGreatZOwn
namespace Go.Proofs.YtdahhoicackcaaaGreat
open Go.Proofs.Tryz
open List (replicate take_left' drop_append drop_eq_nil_of_le nil_append flatten_cons length_append range range_succ getElem_mem length length_map length_nil map_map append_nil length_replicate)
set_option linter.unusedSimpArgs false
set_option linter.unusedVariables false
set_option linter.unusedSectionVars false
open Go.RowKit
set_option maxRecDepth 8000
set_option maxHeartbeats 40000000
abbrev wFh:TypeId:=223
def Ck(pre:List By)(rem:Nat):List Value:=Ab pre++replicate rem (Value.int .u8 0)
theorem VC(pre:List By)(a:Nat):(Ck pre a).length=pre.length+a:=by simp[Ck,Ab]
variable{rem:Nat}
theorem Tu{pre x:List By}(h:x.length<=rem):(Ck pre rem).take pre.length++Ab x++(Ck pre rem).drop (pre.length+(Ab x).length)=Ck (pre++x) (rem-x.length):=by
 unfold Ck
 rw[take_left' (Af pre),Af,drop_append,Af,drop_eq_nil_of_le (by rw[Af];omega),nil_append,Nat.add_sub_cancel_left,List.drop_replicate]
 simp[Ab]
theorem Pv(e d:Nat)(pre x:List By)(b:Nat)(a:Option Addr)(c:Nat)(M:Mem)(j:x.length<=c)(hs:SM M a (Ab x))(k:0<x.length)(f:x.length<=b)(i:b<=1000000000):
  SpecL prog 142 #[pB e,.slice a x.length c] M [(e,cE [.slice (some ⟨d,pre.length,none⟩) b b] wFh),(d,cE (Ck pre b) 5)] λu g h=>u=.slice (some ⟨d,pre.length,none⟩) x.length x.length/\M=g/\h=[(e,cE [.slice (H7 (some ⟨d,pre.length,none⟩) x.length b 1) (b-x.length) (b-x.length)] wFh),(d,cE (Ck (pre++x) (b-x.length)) 5)]:=by
 refine sB func142 ntmps142 ?_;intro W
 refine gh ?_
 refine lh (wCi (cs:=Ab x) rfl rfl rfl rfl (by rw[Af];omega) (hs.sj _) (DC _) (by rw[Af,VC];omega)) ?_;rintro _ _ _ ⟨rfl,rfl,rfl⟩
 rw[Tu f,Af]
 refine gh ?_
 refine lq (Bc (C6 rfl rfl rfl (.of (v:=x.length) rfl (by omega) (by omega)) (.of (v:=x.length) rfl (by omega) (by omega)) (.no _) (by omega) (by simp)) (v':=.slice (some ⟨d,pre.length,none⟩) x.length x.length) (by rw[AZ];rfl)) ?_
 refine gh ?_
 refine lq (C6 rfl rfl rfl (.no _) (.no _) (.of (v:=x.length) rfl (by omega) (by omega)) (by omega) (by simp)) ?_
 refine lq (BZ rfl rfl rfl) ?_
 refine Dz rfl (Ae rfl rfl rfl rfl rfl rfl rfl rfl) ?_;rintro _ _ _ ⟨rfl,rfl⟩
 refine Am (jT (Ao (Ah ?_)))
 iterate 2 refine jp rfl ?_
 refine Am (jT (Bs ?_))
 refine Gd rfl rfl ?_
 grind
theorem LQ:∀{ds:List (List By)},(∀d∈ds,d.length=128)->ds.flatten.length=128*ds.length
 |[],_=>rfl
 |d::ds,h=>by
  rw[flatten_cons,length_append,h d (by simp),LQ (λx a=>h x (by simp[a])),List.length_cons];omega
theorem LR:∀{ds:List (List By)}{j i:Nat},(∀d∈ds,d.length=128)->i<128->ds.flatten[128*j+i]? =(ds[j]?).bind (·[i]?)
 |[],j,i,_,_=>by simp
 |d::ds,0,i,h,a=>by
  rw[flatten_cons,List.getElem?_append_left (by rw[h d (by simp)];omega)];simp
 |d::ds,j+1,i,h,a=>by
  rw[flatten_cons,List.getElem?_append_right (by rw[h d (by simp)];omega),h d (by simp),show 128*(j+1)+i-128=128*j+i by omega,LR (λx b=>h x (by simp[b])) a];simp
theorem Tt(n:Nat):(replicate ((n:Nat):Int).toNat [Value.int .u8 0]).flatten=Ck [] n:=by simp[Ck,Ab]
def Yn:Value:=.slice none 0 0
def GQ(hb j:Nat):Value:=.slice (some ⟨hb,128*j,none⟩) 128 128
def RZ(hb n i:Nat):List Value:=(range i).map (GQ hb)++replicate (n-i) Yn
def PQ(hb n:Nat)(ws:List Wt)(i:Nat):List Value:=(range i).flatMap (λj=>[.int .i64 (ws.getD j (0,[])).1,GQ hb (n+j)])++(replicate (ws.length+1-i) [.int .i64 0,Yn]).flatten
theorem HG(a n:Nat):(replicate ((n:Nat):Int).toNat [Value.slice none 0 0]).flatten=RZ a n 0:=by simp[RZ,Yn]
theorem G4(a n:Nat)(ws:List Wt)(k:Int)(hk:k=((ws.length+1:Nat):Int)):(replicate k.toNat [Value.int .i64 0,Value.slice none 0 0]).flatten=PQ a n ws 0:=by grind[PQ,Yn]
variable{hb i n:Nat}
theorem wKr(h:i<=n):(RZ hb n i).length=n:=by grind[RZ]
variable{ws:List Wt}
theorem Wk(h:i<=ws.length):(PQ hb n ws i).length=2*(ws.length+1):=by
 have e:∀k,((range k).flatMap (λj=>[Value.int .i64 (ws.getD j (0,[])).1,GQ hb (n+j)])).length=2*k:=λk=>by
  induction k with
  |zero=>rfl
  |succ k a=>rw[range_succ,List.flatMap_append,length_append,a];simp;omega
 rw[PQ,length_append,e];simp;omega
theorem wFa{o:Nat}(h:i<n)(b:o=i):(RZ hb n i).take o++[GQ hb i]++(RZ hb n i).drop (o+[GQ hb i].length)=RZ hb n (i+1):=by
 subst b
 have a:((range o).map (GQ hb)).length=o:=by simp
 unfold RZ
 rw[take_left' a,drop_append,drop_eq_nil_of_le (by rw[a];simp),a,nil_append,List.drop_replicate,range_succ,List.map_append]
 simp
 omega
variable{cs:List Value}
theorem Zn{o:Nat}(h:i<ws.length)(d:o=i*2)(b:cs=[.int .i64 (ws.getD i (0,[])).1,GQ hb (n+i)]):(PQ hb n ws i).take o++cs++(PQ hb n ws i).drop (o+cs.length)=PQ hb n ws (i+1):=by
 subst d;subst b
 have a:((range i).flatMap (λj=>[Value.int .i64 (ws.getD j (0,[])).1,GQ hb (n+j)])).length=i*2:=by
  induction i with
  |zero=>rfl
  |succ k c=>rw[range_succ,List.flatMap_append,length_append,c (by omega)];simp;omega
 unfold PQ
 rw[take_left' a,drop_append,drop_eq_nil_of_le (by rw[a];simp),a,nil_append,range_succ,List.flatMap_append]
 rw[show ws.length+1-i=(ws.length+1-(i+1))+1 by omega,List.replicate_succ,flatten_cons]
 simp
theorem UY(bs:List (List By)):(range bs.length).map (λj=>bs.getD j [])=bs:=by
 apply List.ext_getElem?
 grind
theorem UX(ws:List Wt):(range ws.length).map (λj=>ws.getD j (0,[]))=ws:=by
 apply List.ext_getElem?
 grind
variable{M:Mem}{ds:List (List By)}
theorem wDw{j:Nat}(h:∀d∈ds,d.length=128)(a:M hb=some (cE (Ck ds.flatten 0) 5))(c:j<ds.length):BS M (GQ hb j) ds[j]:=by
 have b:=h ds[j] (getElem_mem c)
 refine⟨_,128,by rw[b];rfl,by omega,.inr ⟨hb,128*j,rfl,λi u e=>⟨_,_,_,a,?_⟩⟩⟩
 grind[Af,LR,Ck,Ab]
theorem Qw(bs:List (List By))(ws:List Wt)(z:Option Addr)(r:Nat)(O:List (List By×Value))(y:Option Addr)(o:Nat)(N:List (Wt×Value))(M:Mem)(a0:bs.length<=r)(Z:SM M z (O.map (·.2)))(I:O.map (·.1)=bs)(ae:∀p∈O,BS M p.2 p.1)(az:ws.length<=o)(Y:SM M y (N.flatMap AT))(H:N.map (·.1)=ws)(ad:∀p∈N,BS M p.2 p.1.2)(ai:dkOk bs ws):
  SpecL prog 81 #[.agg #[.slice z bs.length r,.slice y ws.length o]] M [] λu M' L'=>∃ag X,u=.agg #[ag,X]/\LS M' ag bs/\∃ps:List (Wt×Value),ps.map (·.1)=ws/\(∀p∈ps,BS M' p.2 p.1.2)/\Own X L' WT 2 ws.length (ps.flatMap AT):=by
 obtain⟨aw,av,R,Q⟩:=id ai
 have ac:∀d∈bs++ws.map (·.2),d.length=128:=λd S=>by
  rcases List.mem_append.1 S with S|S
  ·exact R d S
  obtain⟨w,hw,rfl⟩:=List.mem_map.1 S;exact(Q w hw).2.2
 have ay:(bs++ws.map (·.2)).length=bs.length+ws.length:=by simp
 have aa:∀i,i<=bs.length+ws.length->(((bs++ws.map (·.2)).take i).flatten).length=128*i:=λi hi=>by rw[LQ (λd S=>ac d (List.mem_of_mem_take S)),List.length_take];congr 1;omega
 refine sB func81 ntmps81 ?_;intro W
 refine EV λn s=>?_
 refine Cz (α:=Nat) (λk=>[(1,pB n),(2,pB s),(3,.int .i64 ((128*k:Nat):Int)),(15,.slice z bs.length r),(16,.int .i64 bs.length),(17,.int .i64 k)]) (λ_=>M) (λ_=>[(s,cE [.slice none 0 0,.slice none 0 0] 29),(n,cE [.slice z bs.length r,.slice y ws.length o] 29)]) (λk=>k<=bs.length) (λk=>bs.length-k) 0 (Nat.zero_le _) ?_
 rintro k hk
 try dsimp only at hk⊢
 refine gj (λao=>?_) λao=>?_
 ·refine gh ?_
  have m:k<bs.length:=by omega
  obtain⟨sb,so,U,P⟩:=Z.open (by intro e;have:=congrArg length e;rw[length_map,length_nil]at this;have T:=congrArg length I;rw[length_map]at T;omega)
  subst U
  obtain⟨K,J,C,F,E⟩:=Cn P I ae m
  have B:=R bs[k] (getElem_mem _)
  refine gh ?_
  refine lq (AE rfl rfl rfl rfl (C.cj _)) ?_
  refine gh ?_
  refine Bw (k+1) (by show k+1<=bs.length;omega) (hk:=(Keep.cons (t:=1) rfl (Keep.cons (t:=2) rfl (Keep.ceq (t:=3) rfl (by rw[B];congr 1) (Keep.cons (t:=15) rfl (Keep.cons (t:=16) rfl (Keep.cons (t:=17) rfl Keep.nil)))))))
 refine gh ?_
 obtain rfl:k=bs.length:=by omega
 refine Cz (α:=Nat) (λk=>[(1,pB n),(2,pB s),(3,.int .i64 ((128*(bs.length+k):Nat):Int)),(27,.slice y ws.length o),(28,.int .i64 ws.length),(29,.int .i64 k)]) (λ_=>M) (λ_=>[(s,cE [.slice none 0 0,.slice none 0 0] 29),(n,cE [.slice z bs.length r,.slice y ws.length o] 29)]) (λk=>k<=ws.length) (λk=>ws.length-k) 0 (Nat.zero_le _) ?_
 rintro k hk
 try dsimp only at hk⊢
 refine gj (λam=>?_) λam=>?_
 ·refine gh ?_
  have m:k<ws.length:=by omega
  obtain⟨sb,so,U,P⟩:=Y.open (by intro e;have:=congrArg length e;rw[Aj AT 2 Bl,length_nil]at this;have T:=congrArg length H;rw[length_map]at T;omega)
  subst U
  obtain⟨K,J,C,F,E⟩:=Ei P H ad m
  have B:=(Q ws[k] (getElem_mem _)).2.2
  refine gh ?_
  refine lq (Bb (cs:=Wj ws[k] K J) rfl rfl rfl rfl rfl (λi v hv=>(C i v hv).cj _)) ?_
  refine ga λb7=>?_
  refine Bw (k+1) (by show k+1<=ws.length;omega) (hk:=(Keep.cons (t:=1) rfl (Keep.cons (t:=2) rfl (Keep.ceq (t:=3) rfl (by rw[B];congr 1) (Keep.cons (t:=27) rfl (Keep.cons (t:=28) rfl (Keep.cons (t:=29) rfl Keep.nil)))))))
 refine gh ?_
 obtain rfl:k=ws.length:=by omega
 refine lh (EJ rfl rfl rfl rfl (by omega) (by rfl)) ?_;rintro _ _ _ ⟨a,rfl,rfl,rfl⟩
 rw[Tt]
 refine ga λl=>?_
 refine Cg ([(n,cE [.slice z bs.length r,.slice y ws.length o] 29)]) (by kernel_rfl) (by simp) ?_
 refine gk [0,1,2,4,5,6,7,8,9,10] ?_
 refine Ch (α:=Nat×Nat×Nat) (λ_=>True) (λx=>[(1,pB n),(2,pB s),(8,pB l),(9,.pointer (some ⟨x.2.2,0,none⟩)),(53,.agg [.slice (some ⟨x.1,0,none⟩) bs.length bs.length,.slice (some ⟨x.2.1,0,none⟩) ws.length (ws.length+1)].toArray)]) (λ_=>M) (λx=>[(l,cE [.slice (some ⟨a,0,none⟩) (128*(bs.length+ws.length-(0))) (128*(bs.length+ws.length-(0)))] wFh),(a,cE (Ck ((bs++ws.map (·.2)).take (0)).flatten (128*(bs.length+ws.length-(0)))) 5),(x.1,cE (RZ a bs.length 0) 30),(x.2.1,cE (PQ a bs.length ws 0) WT),(x.2.2,cE [.slice none 0 0,.slice none 0 0] 29),(s,cE [.slice none 0 0,.slice none 0 0] 29),(n,cE [.slice z bs.length r,.slice y ws.length o] 29)]) 1 #[true,true,true,true,true,true,true,true,true,true,true,true,true,true,false] ?_ (λrest=>?_)
 ·rintro ⟨c,b,f⟩ _
  try dsimp only
  refine aO 14 ?_
  refine My rfl rfl (Ae rfl rfl rfl rfl rfl rfl rfl rfl) ?_;rintro _ _ _ ⟨rfl,rfl⟩
  refine aG (MLe.refl _) ?_
  refine D3 (by kernel_rfl) ?_
  refine gh ?_
  refine Cz (α:=Nat×Option Addr) (λx=>[(1,pB n),(2,pB s),(8,pB l),(9,pB f),(55,.slice z bs.length r),(56,.int .i64 bs.length),(57,.int .i64 (x.1:Int))]) (λ_=>M) (λx=>[(l,cE [.slice x.2 (128*(bs.length+ws.length-(x.1))) (128*(bs.length+ws.length-(x.1)))] wFh),(a,cE (Ck ((bs++ws.map (·.2)).take (x.1)).flatten (128*(bs.length+ws.length-(x.1)))) 5),(c,cE (RZ a bs.length (x.1)) 30),(b,cE (PQ a bs.length ws (0)) WT),(f,cE [.slice (some ⟨c,0,none⟩) bs.length bs.length,.slice (some ⟨b,0,none⟩) ws.length (ws.length+1)] 29),(s,cE [.slice none 0 0,.slice none 0 0] 29),(n,cE [.slice z bs.length r,.slice y ws.length o] 29)]) (λx=>x.1<=bs.length/\(0<128*(bs.length+ws.length-x.1)->x.2=some ⟨a,((bs++ws.map (·.2)).take (x.1)).flatten.length,none⟩)) (λx=>bs.length-x.1) (0,some ⟨a,0,none⟩) ⟨Nat.zero_le _,λ_=>rfl⟩ ?_
  rintro⟨k,A⟩ ⟨hk,V⟩
  try dsimp only at hk V⊢
  refine gj (λal=>?_) λal=>?_
  ·refine gh ?_
   have m:k<bs.length:=by omega
   obtain⟨sb,so,U,P⟩:=Z.open (by intro e;have:=congrArg length e;rw[length_map,length_nil]at this;have T:=congrArg length I;rw[length_map]at T;omega)
   subst U
   obtain⟨K,J,C,F,E⟩:=Cn P I ae m
   have B:=R bs[k] (getElem_mem _)
   refine gh ?_
   refine lq (AE rfl rfl rfl rfl (C.cj _)) ?_
   refine gh ?_
   refine LL [0,1,2,3,104,5,106] [(f,cE [.slice (some ⟨c,0,none⟩) bs.length bs.length,.slice (some ⟨b,0,none⟩) ws.length (ws.length+1)] 29)] ?_
   refine gh ?_
   obtain rfl:A=some ⟨a,((bs++ws.map (·.2)).take (k)).flatten.length,none⟩:=V (by omega)
   have D:=Gk (bs:=bs++ws.map (·.2)) (k:=k) (by omega)
   rw[List.getElem_append_left m]at D
   have G:=aa k (by omega)
   refine dh rfl (hC (Pv l a ((bs++ws.map (·.2)).take (k)).flatten bs[k] (128*(bs.length+ws.length-(k))) K J M F E (by omega) (by omega) (by omega))) ?_;rintro _ M' _ ⟨_,_,rfl,⟨rfl,rfl,rfl⟩⟩
   refine⟨MLe.refl _,by simp,?_⟩
   rw[G,B,<-D,show 128*(bs.length+ws.length-k)-128=128*(bs.length+ws.length-(k+1))by omega,show (Value.slice (some ⟨a,128*k,none⟩) 128 128)=GQ a k from rfl]
   refine gh ?_
   refine Df rfl rfl (JJ rfl rfl rfl rfl rfl rfl (by simp[Value.oneCell',GQ]) (by rw[wKr (by omega)];show _+1<=_;omega)) ?_;rintro _ _ _ ⟨rfl,rfl⟩
   refine⟨_,_,MLe.refl _,MLe.refl _,λ_ h=>h,by simp,?_⟩
   rw[wFa (by omega) (by omega)]
   refine gh ?_
   refine Bw (k+1,H7 (some ⟨a,128*k,none⟩) 128 (128*(bs.length+ws.length-k)) 1) ⟨by show k+1<=bs.length;omega,?_⟩
   grind[H7,AB]
  refine gh ?_
  obtain rfl:k=bs.length:=by omega
  refine Cz (α:=Nat×Option Addr) (λx=>[(1,pB n),(2,pB s),(8,pB l),(9,pB f),(70,.slice y ws.length o),(71,.int .i64 ws.length),(72,.int .i64 (x.1:Int))]) (λ_=>M) (λx=>[(l,cE [.slice x.2 (128*(bs.length+ws.length-(bs.length+x.1))) (128*(bs.length+ws.length-(bs.length+x.1)))] wFh),(a,cE (Ck ((bs++ws.map (·.2)).take (bs.length+x.1)).flatten (128*(bs.length+ws.length-(bs.length+x.1)))) 5),(c,cE (RZ a bs.length (bs.length)) 30),(b,cE (PQ a bs.length ws (x.1)) WT),(f,cE [.slice (some ⟨c,0,none⟩) bs.length bs.length,.slice (some ⟨b,0,none⟩) ws.length (ws.length+1)] 29),(s,cE [.slice none 0 0,.slice none 0 0] 29),(n,cE [.slice z bs.length r,.slice y ws.length o] 29)]) (λx=>x.1<=ws.length/\(0<128*(bs.length+ws.length-(bs.length+x.1))->x.2=some ⟨a,((bs++ws.map (·.2)).take (bs.length+x.1)).flatten.length,none⟩)) (λx=>ws.length-x.1) (0,A) ⟨Nat.zero_le _,V⟩ ?_
  rintro⟨k,A⟩ ⟨hk,V⟩
  try dsimp only at hk V⊢
  refine gj (λak=>?_) λak=>?_
  ·refine gh ?_
   have m:k<ws.length:=by omega
   obtain⟨sb,so,U,P⟩:=Y.open (by intro e;have:=congrArg length e;rw[Aj AT 2 Bl,length_nil]at this;have T:=congrArg length H;rw[length_map]at T;omega)
   subst U
   obtain⟨K,J,C,F,E⟩:=Ei P H ad m
   have B:=(Q ws[k] (getElem_mem _)).2.2
   refine gh ?_
   refine lq (Bb (cs:=Wj ws[k] K J) rfl rfl rfl rfl rfl (λi v hv=>(C i v hv).cj _)) ?_
   refine ga λau=>?_
   refine LL [0,1,2,3,4,5,6,107,8,9,110] [(au,cE (Wj ws[k] K J) WT),(f,cE [.slice (some ⟨c,0,none⟩) bs.length bs.length,.slice (some ⟨b,0,none⟩) ws.length (ws.length+1)] 29)] ?_
   refine gh ?_
   obtain rfl:A=some ⟨a,((bs++ws.map (·.2)).take (bs.length+k)).flatten.length,none⟩:=V (by omega)
   have D:=Gk (bs:=bs++ws.map (·.2)) (k:=bs.length+k) (by omega)
   rw[List.getElem_append_right (by omega)]at D
   simp only[Nat.add_sub_cancel_left,List.getElem_map]at D
   have G:=aa (bs.length+k) (by omega)
   refine dh rfl (hC (Pv l a ((bs++ws.map (·.2)).take (bs.length+k)).flatten ws[k].2 (128*(bs.length+ws.length-(bs.length+k))) K J M F E (by omega) (by omega) (by omega))) ?_;rintro _ M' _ ⟨_,_,rfl,⟨rfl,rfl,rfl⟩⟩
   refine⟨MLe.refl _,by simp,?_⟩
   rw[G,B,<-D,show 128*(bs.length+ws.length-(bs.length+k))-128=128*(bs.length+ws.length-(bs.length+(k+1)))by omega,show (Value.slice (some ⟨a,128*(bs.length+k),none⟩) 128 128)=GQ a (bs.length+k)from rfl]
   refine gh ?_
   refine Df rfl rfl (JJ (cs:=[.int .i64 ws[k].1,GQ a (bs.length+k)]) rfl rfl rfl rfl rfl rfl (by simp[Value.oneCell',GQ]) (by rw[Wk (by omega)];show _+2<=_;omega)) ?_;rintro _ _ _ ⟨rfl,rfl⟩
   refine⟨_,_,MLe.refl _,MLe.refl _,λ_ h=>h,by simp,?_⟩
   rw[Zn (by omega) (by omega) (by rw[show ws.getD k (0,[])=ws[k]from Dy m _])]
   refine gh ?_
   refine H1 (k+1,H7 (some ⟨a,128*(bs.length+k),none⟩) 128 (128*(bs.length+ws.length-(bs.length+k))) 1) (Keep.cons (t:=1) rfl (Keep.cons (t:=2) rfl (Keep.cons (t:=8) rfl (Keep.cons (t:=9) rfl (Keep.cons (t:=70) rfl (Keep.cons (t:=71) rfl (Keep.cons (t:=72) rfl Keep.nil))))))) ⟨by show k+1<=ws.length;omega,?_⟩ (by show ws.length-(k+1)<ws.length-k;omega) (λ_ h=>h.fewer (.cons_cons _ (.cons_cons _ (.cons _ (.refl _)))))
   grind[H7,AB]
  refine gh ?_
  obtain rfl:k=ws.length:=by omega
  refine AP a (by simp) ?_
  intro Ma a3 aq
  refine AP c (by simp) ?_
  intro Mb aj ap
  refine zd ([(b,cE (PQ a bs.length ws (ws.length)) WT)]) rfl ?_
  have L:=aj _ _ aq
  rw[Nat.sub_self,Nat.mul_zero,List.take_of_length_le (by omega)]at L
  have af:=ap
  refine⟨_,_,rfl,?_,(range ws.length).map (λj=>(ws.getD j (0,[]),GQ a (bs.length+j))),?_,?_,?_⟩
  ·refine ⟨_,_,(range bs.length).map (λj=>(bs.getD j [],GQ a j)),rfl,Nat.le_refl _,?_,?_,?_⟩
   ·rw [map_map];have:=SM.of_block af;unfold RZ at this;rw[Nat.sub_self,List.replicate_zero,append_nil]at this;exact this
   ·rw [map_map];exact UY bs
   grind[wDw,BS,Dy]
  ·rw [map_map];exact UX ws
  ·intro p hp;obtain⟨j,hj,rfl⟩:=List.mem_map.1 hp
   have ax:=List.mem_range.1 hj
   have:=wDw ac L (j:=bs.length+j) (by omega)
   grind
  have ab:((range ws.length).map (λj=>(ws.getD j (0,[]),GQ a (bs.length+j)))).flatMap AT=(range ws.length).flatMap (λj=>[Value.int .i64 (ws.getD j (0,[])).1,GQ a (bs.length+j)]):=by rw[List.flatMap_map];rfl
  have ah:((range ws.length).flatMap (λj=>[Value.int .i64 (ws.getD j (0,[])).1,GQ a (bs.length+j)])).length=ws.length*2:=by rw[<-ab,Aj AT 2 Bl];simp
  rw[ab]
  refine⟨ah,.inr ⟨b,ws.length+1,_,rfl,rfl,Nat.le_succ _,?_,?_,?_⟩⟩
  ·unfold maxLen;omega
  ·grind [PQ,Wk]
  grind[PQ]
 refine AR [3,11,13] (by kernel_rfl) rfl ⟨?_,?_,?_,trivial⟩
 ·refine sh rfl (EJ rfl rfl rfl rfl (by omega) (by rfl)) ?_;rintro _ _ _ ⟨c,rfl,rfl,rfl⟩
  refine aG (MLe.refl _) ?_
  rw[HG a]
  refine AR [11,13] (by kernel_rfl) rfl ⟨?_,?_,trivial⟩
  ·refine sh rfl (EJ rfl rfl rfl rfl (by omega) (by rfl)) ?_;rintro _ _ _ ⟨b,rfl,rfl,rfl⟩
   refine aG (MLe.refl _) ?_
   rw[G4 a bs.length ws _ (by omega)]
   refine GJ (i:=12) rfl (by kernel_rfl) (by kernel_rfl) rfl rfl (Bk (cs:=[_,_]) rfl rfl rfl (by rfl)) ?_
   refine aO 13 ?_
   refine sh rfl (AM rfl rfl) ?_;rintro _ _ _ ⟨f,rfl,rfl,rfl⟩
   refine aG (MLe.refl _) ?_
   refine Cr (listed':=#[true,true,true,true,true,true,true,true,true,true,true,true,true,true,false]) (by kernel_rfl) (Cq (Keep.cons (t:=1) rfl (Keep.cons (t:=2) rfl (Keep.cons (t:=8) rfl (Keep.cons (t:=9) rfl (Keep.cons (t:=53) rfl Keep.nil))))) ?_)
   refine D2 (M2:=M) (L2:=[(l,cE [.slice (some ⟨a,0,none⟩) (128*(bs.length+ws.length-(0))) (128*(bs.length+ws.length-(0)))] wFh),(a,cE (Ck ((bs++ws.map (·.2)).take (0)).flatten (128*(bs.length+ws.length-(0)))) 5),(c,cE (RZ a bs.length (0)) 30),(b,cE (PQ a bs.length ws (0)) WT),(f,cE [.slice none 0 0,.slice none 0 0] 29),(s,cE [.slice none 0 0,.slice none 0 0] 29),(n,cE [.slice z bs.length r,.slice y ws.length o] 29)]) (λw h=>h.perm ((Rm.perm (g:=l)).trans (List.Perm.cons _ ((Rm.perm (g:=a)).trans (List.Perm.cons _ ((Rm.perm (g:=c)).trans (List.Perm.cons _ ((Rm.perm (g:=b)).trans (List.Perm.cons _ (Rm.perm (g:=f))))))))))) (MLe.refl _) (by simp) ?_
   simp_all
  refine sh rfl (AM rfl rfl) ?_;rintro _ _ _ ⟨f,rfl,rfl,rfl⟩
  refine aG (MLe.refl _) ?_
  refine aO 11 ?_
  refine sh rfl (EJ rfl rfl rfl rfl (by omega) (by rfl)) ?_;rintro _ _ _ ⟨b,rfl,rfl,rfl⟩
  refine aG (MLe.refl _) ?_
  rw[G4 a bs.length ws _ (by omega)]
  refine GJ (i:=12) rfl (by kernel_rfl) (by kernel_rfl) rfl rfl (Bk (cs:=[_,_]) rfl rfl rfl (by rfl)) ?_
  refine Cr (listed':=#[true,true,true,true,true,true,true,true,true,true,true,true,true,true,false]) (by kernel_rfl) (Cq (Keep.cons (t:=1) rfl (Keep.cons (t:=2) rfl (Keep.cons (t:=8) rfl (Keep.cons (t:=9) rfl (Keep.cons (t:=53) rfl Keep.nil))))) ?_)
  refine D2 (M2:=M) (L2:=[(l,cE [.slice (some ⟨a,0,none⟩) (128*(bs.length+ws.length-(0))) (128*(bs.length+ws.length-(0)))] wFh),(a,cE (Ck ((bs++ws.map (·.2)).take (0)).flatten (128*(bs.length+ws.length-(0)))) 5),(c,cE (RZ a bs.length (0)) 30),(b,cE (PQ a bs.length ws (0)) WT),(f,cE [.slice none 0 0,.slice none 0 0] 29),(s,cE [.slice none 0 0,.slice none 0 0] 29),(n,cE [.slice z bs.length r,.slice y ws.length o] 29)]) (λw h=>h.perm ((Rm.perm (g:=l)).trans (List.Perm.cons _ ((Rm.perm (g:=a)).trans (List.Perm.cons _ ((Rm.perm (g:=c)).trans (List.Perm.cons _ ((Rm.perm (g:=b)).trans (List.Perm.cons _ (Rm.perm (g:=f))))))))))) (MLe.refl _) (by simp) ?_
  simp_all
 ·refine sh rfl (EJ rfl rfl rfl rfl (by omega) (by rfl)) ?_;rintro _ _ _ ⟨b,rfl,rfl,rfl⟩
  refine aG (MLe.refl _) ?_
  rw[G4 a bs.length ws _ (by omega)]
  refine AR [3,13] (by kernel_rfl) rfl ⟨?_,?_,trivial⟩
  ·refine sh rfl (EJ rfl rfl rfl rfl (by omega) (by rfl)) ?_;rintro _ _ _ ⟨c,rfl,rfl,rfl⟩
   refine aG (MLe.refl _) ?_
   rw[HG a]
   refine GJ (i:=12) rfl (by kernel_rfl) (by kernel_rfl) rfl rfl (Bk (cs:=[_,_]) rfl rfl rfl (by rfl)) ?_
   refine aO 13 ?_
   refine sh rfl (AM rfl rfl) ?_;rintro _ _ _ ⟨f,rfl,rfl,rfl⟩
   refine aG (MLe.refl _) ?_
   refine Cr (listed':=#[true,true,true,true,true,true,true,true,true,true,true,true,true,true,false]) (by kernel_rfl) (Cq (Keep.cons (t:=1) rfl (Keep.cons (t:=2) rfl (Keep.cons (t:=8) rfl (Keep.cons (t:=9) rfl (Keep.cons (t:=53) rfl Keep.nil))))) ?_)
   refine D2 (M2:=M) (L2:=[(l,cE [.slice (some ⟨a,0,none⟩) (128*(bs.length+ws.length-(0))) (128*(bs.length+ws.length-(0)))] wFh),(a,cE (Ck ((bs++ws.map (·.2)).take (0)).flatten (128*(bs.length+ws.length-(0)))) 5),(c,cE (RZ a bs.length (0)) 30),(b,cE (PQ a bs.length ws (0)) WT),(f,cE [.slice none 0 0,.slice none 0 0] 29),(s,cE [.slice none 0 0,.slice none 0 0] 29),(n,cE [.slice z bs.length r,.slice y ws.length o] 29)]) (λw h=>h.perm ((Rm.perm (g:=l)).trans (List.Perm.cons _ ((Rm.perm (g:=a)).trans (List.Perm.cons _ ((Rm.perm (g:=c)).trans (List.Perm.cons _ ((Rm.perm (g:=b)).trans (List.Perm.cons _ (Rm.perm (g:=f))))))))))) (MLe.refl _) (by simp) ?_
   simp_all
  refine sh rfl (AM rfl rfl) ?_;rintro _ _ _ ⟨f,rfl,rfl,rfl⟩
  refine aG (MLe.refl _) ?_
  refine aO 3 ?_
  refine sh rfl (EJ rfl rfl rfl rfl (by omega) (by rfl)) ?_;rintro _ _ _ ⟨c,rfl,rfl,rfl⟩
  refine aG (MLe.refl _) ?_
  rw[HG a]
  refine GJ (i:=12) rfl (by kernel_rfl) (by kernel_rfl) rfl rfl (Bk (cs:=[_,_]) rfl rfl rfl (by rfl)) ?_
  refine Cr (listed':=#[true,true,true,true,true,true,true,true,true,true,true,true,true,true,false]) (by kernel_rfl) (Cq (Keep.cons (t:=1) rfl (Keep.cons (t:=2) rfl (Keep.cons (t:=8) rfl (Keep.cons (t:=9) rfl (Keep.cons (t:=53) rfl Keep.nil))))) ?_)
  refine D2 (M2:=M) (L2:=[(l,cE [.slice (some ⟨a,0,none⟩) (128*(bs.length+ws.length-(0))) (128*(bs.length+ws.length-(0)))] wFh),(a,cE (Ck ((bs++ws.map (·.2)).take (0)).flatten (128*(bs.length+ws.length-(0)))) 5),(c,cE (RZ a bs.length (0)) 30),(b,cE (PQ a bs.length ws (0)) WT),(f,cE [.slice none 0 0,.slice none 0 0] 29),(s,cE [.slice none 0 0,.slice none 0 0] 29),(n,cE [.slice z bs.length r,.slice y ws.length o] 29)]) (λw h=>h.perm ((Rm.perm (g:=l)).trans (List.Perm.cons _ ((Rm.perm (g:=a)).trans (List.Perm.cons _ ((Rm.perm (g:=c)).trans (List.Perm.cons _ ((Rm.perm (g:=b)).trans (List.Perm.cons _ (Rm.perm (g:=f))))))))))) (MLe.refl _) (by simp) ?_
  simp_all
 refine sh rfl (AM rfl rfl) ?_;rintro _ _ _ ⟨f,rfl,rfl,rfl⟩
 refine aG (MLe.refl _) ?_
 refine AR [3,11] (by kernel_rfl) rfl ⟨?_,?_,trivial⟩
 ·refine sh rfl (EJ rfl rfl rfl rfl (by omega) (by rfl)) ?_;rintro _ _ _ ⟨c,rfl,rfl,rfl⟩
  refine aG (MLe.refl _) ?_
  rw[HG a]
  refine aO 11 ?_
  refine sh rfl (EJ rfl rfl rfl rfl (by omega) (by rfl)) ?_;rintro _ _ _ ⟨b,rfl,rfl,rfl⟩
  refine aG (MLe.refl _) ?_
  rw[G4 a bs.length ws _ (by omega)]
  refine GJ (i:=12) rfl (by kernel_rfl) (by kernel_rfl) rfl rfl (Bk (cs:=[_,_]) rfl rfl rfl (by rfl)) ?_
  refine Cr (listed':=#[true,true,true,true,true,true,true,true,true,true,true,true,true,true,false]) (by kernel_rfl) (Cq (Keep.cons (t:=1) rfl (Keep.cons (t:=2) rfl (Keep.cons (t:=8) rfl (Keep.cons (t:=9) rfl (Keep.cons (t:=53) rfl Keep.nil))))) ?_)
  refine D2 (M2:=M) (L2:=[(l,cE [.slice (some ⟨a,0,none⟩) (128*(bs.length+ws.length-(0))) (128*(bs.length+ws.length-(0)))] wFh),(a,cE (Ck ((bs++ws.map (·.2)).take (0)).flatten (128*(bs.length+ws.length-(0)))) 5),(c,cE (RZ a bs.length (0)) 30),(b,cE (PQ a bs.length ws (0)) WT),(f,cE [.slice none 0 0,.slice none 0 0] 29),(s,cE [.slice none 0 0,.slice none 0 0] 29),(n,cE [.slice z bs.length r,.slice y ws.length o] 29)]) (λw h=>h.perm ((Rm.perm (g:=l)).trans (List.Perm.cons _ ((Rm.perm (g:=a)).trans (List.Perm.cons _ ((Rm.perm (g:=c)).trans (List.Perm.cons _ ((Rm.perm (g:=b)).trans (List.Perm.cons _ (Rm.perm (g:=f))))))))))) (MLe.refl _) (by simp) ?_
  simp_all
 refine sh rfl (EJ rfl rfl rfl rfl (by omega) (by rfl)) ?_;rintro _ _ _ ⟨b,rfl,rfl,rfl⟩
 refine aG (MLe.refl _) ?_
 rw[G4 a bs.length ws _ (by omega)]
 refine aO 3 ?_
 refine sh rfl (EJ rfl rfl rfl rfl (by omega) (by rfl)) ?_;rintro _ _ _ ⟨c,rfl,rfl,rfl⟩
 refine aG (MLe.refl _) ?_
 rw[HG a]
 refine GJ (i:=12) rfl (by kernel_rfl) (by kernel_rfl) rfl rfl (Bk (cs:=[_,_]) rfl rfl rfl (by rfl)) ?_
 refine Cr (listed':=#[true,true,true,true,true,true,true,true,true,true,true,true,true,true,false]) (by kernel_rfl) (Cq (Keep.cons (t:=1) rfl (Keep.cons (t:=2) rfl (Keep.cons (t:=8) rfl (Keep.cons (t:=9) rfl (Keep.cons (t:=53) rfl Keep.nil))))) ?_)
 refine D2 (M2:=M) (L2:=[(l,cE [.slice (some ⟨a,0,none⟩) (128*(bs.length+ws.length-(0))) (128*(bs.length+ws.length-(0)))] wFh),(a,cE (Ck ((bs++ws.map (·.2)).take (0)).flatten (128*(bs.length+ws.length-(0)))) 5),(c,cE (RZ a bs.length (0)) 30),(b,cE (PQ a bs.length ws (0)) WT),(f,cE [.slice none 0 0,.slice none 0 0] 29),(s,cE [.slice none 0 0,.slice none 0 0] 29),(n,cE [.slice z bs.length r,.slice y ws.length o] 29)]) (λw h=>h.perm ((Rm.perm (g:=l)).trans (List.Perm.cons _ ((Rm.perm (g:=a)).trans (List.Perm.cons _ ((Rm.perm (g:=c)).trans (List.Perm.cons _ ((Rm.perm (g:=b)).trans (List.Perm.cons _ (Rm.perm (g:=f))))))))))) (MLe.refl _) (by simp) ?_
 simp_all
variable{P:Program}{args:Array Value}{f:FuncId}{post:Value->Mem->Lc->Prop}
theorem SpecL.own{d:Value->Mem->Lc->Prop}(h:SpecL P f args M [] post)
  (hk:∀v M' L',post v M' L'->∃u e g n xs,Own u L' e g n xs/\∀b a c,MLe M' b->u=.slice a n c->n<=c->SM b a xs->d v b []):SpecL P f args M [] d:=λw o=>
 (h w o).mono λe C ⟨v,M',L',B,z,y⟩=>by
  obtain⟨u,t,g,n,xs,s,r⟩:=hk v M' L' z
  obtain⟨b,a,c,m,l,k,j,i⟩:=s.freeze (X:=[]) (L:=[]) (λ_ _ h=>by cases h) (by rw[append_nil];exact y)
  exact⟨v,b,[],B,r b a c m l k j,i⟩
theorem VU(bs:List (List By))(ws:List Wt)(y:Option Addr)(s:Nat)(e:List (List By×Value))(t:Option Addr)(r:Nat)(d:List (Wt×Value))(M:Mem)(m:bs.length<=s)(h:SM M y (e.map (·.2)))(j:e.map (·.1)=bs)(o:∀p∈e,BS M p.2 p.1)(l:ws.length<=r)(g:SM M t (d.flatMap AT))(i:d.map (·.1)=ws)(n:∀p∈d,BS M p.2 p.1.2)(k:dkOk bs ws):
  SpecL prog 81 #[.agg #[.slice y bs.length s,.slice t ws.length r]] M [] λu z C=>(∃f b,u=.agg #[f,b]/\LS z f bs/\WS z b ws)/\C=[]:=
 (Qw bs ws y s e t r d M m h j o l g i n k).own λv z C ⟨f,b,N,L,D,K,J,I⟩=>
  ⟨_,_,_,_,_,I,λO a c B G F E=>⟨⟨f,b,N,L.mono B,a,c,D,G,F,E,K,λp H=>(J p H).mono B⟩,rfl⟩⟩
set_option maxRecDepth 8000
set_option maxHeartbeats 40000000
theorem Ps(bs:List (List By))(ws:List Wt)(u v:Value)(M:Mem)(r:LS M u bs)(o:WS M v ws)(h:dkOk bs ws):SpecL prog 81 #[.agg #[u,v]] M [] λu c s=>(∃b a,u=.agg #[b,a]/\LS c b bs/\WS c a ws)/\s=[]:=by
 obtain⟨B,y,e,rfl,l,g,j,n⟩:=r
 obtain⟨z,t,d,rfl,k,f,i,m⟩:=o
 grind[VU]
abbrev TSt:TypeId:=32
theorem Jo(s:Sto)(j i nv lv:Value)(M:Mem)(G:LS M j s.blocks)(F:WS M i s.waits)(E:BS M nv s.now)(D:BS M lv s.last)(m:dkOk s.blocks s.waits)(B:s.now.length<=100000)(C:s.last.length<=100000):
  SpecL prog 55 #[.agg #[j,i,nv,lv]] M [] λu Q R=>ST Q u s/\R=[]:=by
 refine sB func55 ntmps55 ?_;intro W
 refine EV λL b2=>?_
 refine LL [0,1,3,4,6,7,102,105,108,9,110] [(L,cE [j,i,nv,lv] TSt)] ?_
 refine gh ?_
 refine dh rfl (hC (Ps s.blocks s.waits j i M G F m)) ?_;rintro _ P _ ⟨e,_,rfl,⟨⟨J,y,rfl,t,r⟩,rfl⟩⟩
 refine⟨e,by simp,?_⟩
 obtain⟨ba,bc,K,rfl,_⟩:=id t
 obtain⟨T,S,z,rfl,_⟩:=id r
 refine dh rfl (hC (Bv nv s.now P (E.mono e) B)) ?_;rintro _ O _ ⟨c,R8,rfl,b⟩
 refine⟨c,by simp,?_⟩
 obtain⟨V,U,rfl⟩:=b.form
 refine dh rfl (hC (Bv lv s.last O (D.mono (e.trans c)) C)) ?_;rintro _ M3 _ ⟨d,N,rfl,a⟩
 refine⟨d,by simp,?_⟩
 obtain⟨Y,X,rfl⟩:=a.form
 refine dq rfl (Bk (cs:=[_,_,_,_]) rfl rfl rfl (by rfl)) ?_
 refine Df rfl rfl (Ae rfl rfl rfl rfl rfl rfl rfl rfl) ?_;rintro _ _ _ ⟨rfl,rfl⟩
 refine⟨_,_,MLe.refl _,(e.trans c).trans d,λ_ h=>h,by simp,?_⟩
 refine gh ?_
 refine Cj b (by simp) ?_
 intro M4 a4 c4 g I o l;cases I
 refine Cj a (by simp) ?_
 intro M5 a5 Z f H n k;cases H
 refine gr ?_
 exact⟨⟨_,_,_,_,rfl,t.mono (c.trans (d.trans (g.trans f))),r.mono (c.trans (d.trans (g.trans f))),⟨_,_,rfl,o,l.mono f⟩,⟨_,_,rfl,n,k⟩⟩,rfl⟩
theorem DP(s:Sto)(p:Nat)(b a nv lv:Value)(M:Mem)(d:M p=some (cE [b,a,nv,lv] Ee))(z:LS M b s.blocks)(y:WS M a s.waits)(t:BS M nv s.now)(r:BS M lv s.last)(e:dkOk s.blocks s.waits)(m:s.now.length<=100000)(n:s.last.length<=100000):
  SpecL prog 115 #[pB p] M [] λu C D=>ST C u s/\D=[]:=by
 refine sB func115 ntmps115 ?_;intro W
 refine ga λR=>?_
 refine lq (Bb (cs:=[b,a,nv,lv]) rfl rfl rfl rfl rfl (λi v l=>CM.cj ⟨_,_,_,d,by simpa using l⟩ _)) ?_
 refine gc (Jo s b a nv lv M z y t r e m n) ?_;rintro _ S o c
 obtain⟨J,I,H,G,rfl,j,h,g,f⟩:=c.ex
 obtain⟨Q,P,B,rfl,_⟩:=id j
 obtain⟨F,E,k,rfl,_⟩:=id h
 obtain⟨L,K,rfl,_⟩:=id g
 obtain⟨O,N,rfl,_⟩:=id f
 refine gr ?_
 exact⟨⟨_,_,_,_,rfl,j,h,g,f⟩,rfl⟩
def Z128:List By:=replicate 128 0
def Z256:List By:=replicate 256 0
theorem Zl(n:Nat)(k:Int)(hk:k=(n:Int)):(replicate k.toNat [Value.int .u8 0]).flatten=Ab (replicate n 0):=by simp_all [Ab]
theorem z256:(replicate (256:Int).toNat [Value.int .u8 0]).flatten=Ab Z256:=Zl 256 256 rfl
theorem z128:(replicate (128:Int).toNat [Value.int .u8 0]).flatten=Ab Z128:=Zl 128 128 rfl
theorem Uc:Z128.length=128:=length_replicate
theorem Ub:Z256.length=256:=length_replicate
def PL(vals:List Value):List Value:=vals++replicate (256-vals.length) Yn
theorem Yp:(replicate (256:Int).toNat [Value.slice none 0 0]).flatten=PL []:=by
 simp_all [PL,Yn]
variable{vals:List Value}
theorem wAu(h:vals.length<=256):(PL vals).length=256:=by grind[PL]
variable{o:Nat}
theorem Yq{v:Value}(h:vals.length<256)(a:o=vals.length):(PL vals).take o++[v]++(PL vals).drop (o+[v].length)=PL (vals++[v]):=by
 subst a
 unfold PL
 rw[take_left' rfl,drop_append,drop_eq_nil_of_le (by simp),nil_append,List.drop_replicate]
 simp
 omega
theorem QC(M:Mem):
  SpecL prog 94 #[] M [] λu d e=>BS d u Z256/\e=[]:=by
 refine sB func94 ntmps94 ?_;intro W
 refine gh ?_
 refine lh (EJ rfl rfl rfl rfl (by omega) (by rfl)) ?_;rintro _ _ _ ⟨c,rfl,rfl,rfl⟩
 rw[z256]
 refine gh ?_
 refine AP c (by simp) ?_
 intro f a b
 refine gr ?_
 exact⟨⟨_,256,by rw[Ub];rfl,by rw[Ub];exact Nat.le_refl _,SM.of_block b⟩,rfl⟩
theorem YX(M:Mem):
  SpecL prog 93 #[] M [] λu o z=>(∃l j,u=.agg #[l,j]/\LS o l (replicate 256 Z128)/\WS o j [])/\z=[]:=by
 refine sB func93 ntmps93 ?_;intro W
 refine ga λm=>?_
 refine lh (EJ rfl rfl rfl rfl (by omega) (by rfl)) ?_;rintro _ _ _ ⟨e,rfl,rfl,rfl⟩
 rw[Yp]
 refine ga λi=>?_
 refine Cz (α:=Nat×Mem×List Value) (λx=>[(0,pB m),(1,pB i),(6,.slice (some ⟨e,0,none⟩) 256 256),(7,.int .i64 256),(8,.int .i64 (x.1:Int))]) (λx=>x.2.1) (λx=>[(i,cE [.slice (some ⟨e,0,none⟩) 256 256,.slice none 0 0] 29),(e,cE (PL x.2.2) 30),(m,cE [.slice none 0 0,.slice none 0 0] 29)]) (λx=>x.1<=256/\x.2.2.length=x.1/\∀v∈x.2.2,BS x.2.1 v Z128) (λx=>256-x.1) (0,M,[]) ⟨Nat.zero_le _,rfl,λ_ h=>by cases h⟩ ?_
 rintro⟨k,B,vals⟩ ⟨s,a,b⟩
 try dsimp only at s a b⊢
 refine gj (λt=>?_) λt=>?_
 ·refine gh ?_
  refine LL [0,1,2,103,4,105] [(i,cE [.slice (some ⟨e,0,none⟩) 256 256,.slice none 0 0] 29)] ?_
  refine gh ?_
  refine dh rfl (EJ rfl rfl rfl rfl (by omega) (by rfl)) ?_;rintro _ _ _ ⟨f,rfl,rfl,rfl⟩
  refine⟨MLe.refl _,by simp,?_⟩
  rw[z128]
  refine gh ?_
  refine Df rfl rfl (JJ rfl rfl rfl rfl rfl rfl (by simp[Value.oneCell']) (by rw[wAu (by omega)];show _+1<=_;omega)) ?_;rintro _ _ _ ⟨rfl,rfl⟩
  refine⟨_,_,MLe.refl _,MLe.refl _,λ_ h=>h,by simp,?_⟩
  rw[Yq (by omega) (by omega)]
  refine gh ?_
  refine AP f (by simp) ?_
  intro n d g
  refine Bw (k+1,n,vals++[.slice (some ⟨f,0,none⟩) (128:Int).toNat (128:Int).toNat]) ⟨by show k+1<=256;omega,by show (vals++[_]).length=k+1;rw[length_append,a];rfl,?_⟩
  intro v c;rcases List.mem_append.1 c with c|c
  ·exact (b v c).mono d
  rw[List.mem_singleton.1 c];exact⟨_,128,by rw[Uc];rfl,by rw[Uc];exact Nat.le_refl _,SM.of_block g⟩
 refine gh ?_
 obtain rfl:k=256:=by omega
 refine AP e (by simp) ?_
 intro n d y
 refine gr ?_
 refine⟨⟨_,_,rfl,⟨_,256,vals.map (λv=>(Z128,v)),by rw[length_replicate],by rw[length_replicate];exact Nat.le_refl _,?_,?_,?_⟩,⟨none,0,[],rfl,Nat.le_refl _,SM.nil,rfl,λ_ h=>by cases h⟩⟩,rfl⟩
 ·have:=SM.of_block y;unfold PL at this;rw[a,Nat.sub_self,List.replicate_zero,append_nil]at this;rw[map_map,show ((λp:List By×Value=>p.2)∘λv=>(Z128,v))=id from rfl,List.map_id];exact this
 ·rw [map_map,show ((λp:List By×Value=>p.1)∘λv=>(Z128,v))=λ_=>Z128 from rfl,List.map_const',a]
 intro p r;obtain⟨v,c,rfl⟩:=List.mem_map.1 r;exact(b v c).mono d
def st0:Sto:=⟨replicate 256 Z128,[],Z256,Z256⟩
theorem XZ(M:Mem):
  SpecL prog 45 #[] M [] λu l m=>ST l u st0/\m=[]:=by
 refine sB func45 ntmps45 ?_;intro W
 refine ga λE=>?_
 refine gc (YX M) ?_;rintro _ k h ⟨B,n,rfl,f,e⟩
 obtain⟨D,C,i,rfl,_⟩:=id f
 obtain⟨r,o,g,rfl,_⟩:=id e
 refine gc (QC k) ?_;rintro _ j b c
 obtain⟨t,s,rfl,_⟩:=id c
 refine gc (QC j) ?_;rintro _ F a d
 obtain⟨z,y,rfl,_⟩:=id d
 refine gr ?_
 exact⟨⟨_,_,_,_,rfl,f.mono (b.trans a),e.mono (b.trans a),c.mono a,d⟩,rfl⟩
variable{F:Fr}{L:Lc}{M0:Mem}{N:Fs}{P:Program}{Q:Exit->Act->World->Prop}{W:World}{X:List Nat}{bb:Nat}{ops:Array Oper}{rest:List Oper}{s:Sto}
theorem Kq{M:Mem}{L2 C:Lc}(O:BOwn M bb C s)[hp:Pick C L L2](y:∀p∈C,p.1∉X)
  (h:∀M' r k nv lv,MLe M M'->M' bb=some (cE [r,k,nv,lv] Ee)->LS M' r s.blocks->WS M' k s.waits->BS M' nv s.now->BS M' lv s.last->JL P ops N Q rest F ⟨W,X,M0⟩ M' L2):JL P ops N Q rest F ⟨W,X,M0⟩ M L:=by
 obtain⟨r,k,E,D,lv,Rw,H,rfl,U,T,S,m,o,n,j⟩:=O
 refine Re (M':=M) (L':=(bb,cE [r,k,.slice E s.now.length D,lv] Ee)::(Rw++(H++L2))) (λw I=>by have:=I.perm hp.perm;rwa[List.cons_append,List.append_assoc]at this) ?_
 have fin:∀(l:Mem)(i:Value),MLe M l->i=k->WS l i s.waits->JL P ops N Q rest F ⟨W,X,M0⟩ l ((bb,cE [r,k,.slice E s.now.length D,lv] Ee)::(H++L2)):=λl i c e K=>by
  subst e
  refine EM S (λp hp=>y p (by simp[hp])) ?_
  intro M2 a2 c2 g V z t
  refine Cx bb (y _ (List.mem_cons_self (a:=(bb,_)))) ?_
  intro M3 d G
  rw[V]at G
  exact h M3 _ _ _ _ (c.trans (g.trans d)) G (U.mono (c.trans (g.trans d))) (K.mono (g.trans d)) ⟨_,_,rfl,z,t.mono d⟩ (T.mono (c.trans (g.trans d)))
 rcases j with j|⟨rfl,J,ba,rfl,f,hold⟩
 ·refine EM j (λp hp=>y p (by simp[hp])) ?_
  intro l a1 Z c Y B u
  exact fin l _ c Y.symm ⟨a1,Z,m,rfl,B,u,o,λp hp=>(n p hp).mono c⟩
 refine fin M _ (MLe.refl _) rfl ⟨_,_,m,rfl,Nat.le_refl _,?_,o,n⟩
 rcases f with R|f
 ·exact .inl R
 obtain⟨b,of,sp⟩:=ba
 simp only at f
 subst f
 exact .inr ⟨b,of,rfl,hold⟩
variable{k:Nat}{xs:List By}
theorem Az{j:Nat}{v:By}(h:j≠k):(xs.set k v).getD j 0=xs.getD j 0:=by
 grind
theorem XM{v:By}(h:8<=k):(xs.set k v).take 8=xs.take 8:=by
 rw[List.take_set];rw[List.set_eq_of_length_le];rw[List.length_take];omega
theorem Gn{v:By}(h:8<=k)(a:DR xs):DR (xs.set k v):=by
 grind[DR,XM]
theorem H5(s:Sto):∀(f k:Nat),k<=frAt s f k
 |0,k=>Nat.le_refl _
 |f+1,k=>by
  rw[frAt];split
  ·omega
  exact Nat.le_trans (Nat.le_succ k) (H5 s f (k+1))
theorem P1{xs:List It}(h:DR s.now)(a:∀x∈xs,x.ref=0\/8<=x.ref/\x.ref<256):DR (Ag s xs).now:=by
 unfold Ag
 induction xs generalizing s with
 |nil=>exact h
 |cons x xs b=>
  rw[List.foldl_cons]
  refine b ?_ (λy c=>a y (by simp[c]))
  have:=a x (by simp)
  split
  ·exact h
  exact Gn (by omega) h
variable{lv:Int}
theorem Hl{xs:List It}(d:Aq s)(e:Cw lv xs=true)(m:mkAt (Ag s xs)<256)(l:s.waits.length<4096):Aq (mkS s lv xs):=by
 obtain⟨⟨j,t,i,h⟩,o,n⟩:=d
 obtain⟨u,g,r,f⟩:=CB s xs
 have a:=NdOk.of e
 refine⟨⟨?_,?_,?_,?_⟩,?_,?_⟩
 ·show (Ag s xs).blocks.length=256;rw[f];exact j
 ·show ((Ag s xs).waits++[_]).length<=4096;rw[g,length_append];show _+1<=_;omega
 ·show ∀b∈(Ag s xs).blocks,_;rw[f];exact i
 ·show ∀w∈(Ag s xs).waits++[_],_
  rw[g]
  intro w c
  rcases List.mem_append.1 c with c|c
  ·exact h w c
  rw[List.mem_singleton.1 c]
  refine⟨by omega,by omega,F2 ?_⟩
  have:=Gf (λx k=>(BX a.ok x k).1)
  have:=a.len
  grind[C4]
 ·exact Gn (H5 _ _ _) (P1 o a.ref)
 show DR (Ag s xs).last;rw[r];exact n
theorem VZ(s:Sto)(o nv n:Value)(e:Option Addr)(m:Nat)(lv:Int)(xs:List It)(a:Option Addr)(c:Nat)(ps:List (It×Value))(M:Mem)(h1:LS M o s.blocks)(b:List (Wt×Value))(y:s.waits.length<=m)(r:SM M e (b.flatMap AT))(g:b.map (·.1)=s.waits)(z:∀p∈b,BS M p.2 p.1.2)(h3:BS M nv s.now)(Z:BS M n s.last)(X:xs.length<=c)(hs:SM M a (ps.flatMap Ac))(hp:ps.map (·.1)=xs)(Y:∀p∈ps,BS M p.2 p.1.val)(N:∀x∈xs,0<=x.key.kind/\x.key.kind<256)(h:Aq s)(j:Cw lv xs=true)(J:wMi s xs)(D:mkAt (Ag s xs)<256)(t:s.waits.length<4096):
  SpecL prog 90 #[.agg #[o,.slice e s.waits.length m,nv,n],.agg #[.int .i64 lv,.slice a xs.length c]] M [] λu M' L'=>(∃v,u=.tuple #[v,.int .i64 (mkAt (Ag s xs)),.int .i64 0]/\ST M' v (mkS s lv xs))/\L'=[]:=by
 have P:WS M (.slice e s.waits.length m) s.waits:=⟨e,m,b,rfl,y,r,g,z⟩
 have Q:ST M (.agg #[o,.slice e s.waits.length m,nv,n]) s:=⟨_,_,_,_,rfl,h1,P,h3,Z⟩
 have K:NS M (.slice a xs.length c) xs:=⟨a,c,ps,rfl,X,hs,hp,Y⟩
 have al:Dp s=0:=if_pos h
 have ah:CW lv xs=0:=if_pos j
 obtain⟨ak,⟨k,_⟩,⟨l,_⟩⟩:=id h
 refine sB func90 ntmps90 ?_;intro W
 refine Rl λb2 b3 b4=>?_
 refine gQ (CD s _ M Q) ?_
 refine gt ?_
 refine gQ (FI lv xs _ M K) ?_
 refine gt ?_
 refine gC (K2 s o nv n e m M y (by omega) h3 (by omega)) ?_;rintro _ M1 _ d ⟨bb,Rn,V,U,rfl,rfl,B⟩
 have S:BOwn M1 bb ((bb,cE [o,.slice e s.waits.length s.waits.length,.slice V s.now.length U,n] Ee)::Rn) s:=by
  refine⟨o,_,V,U,n,[],Rn,rfl,h1.mono d,Z.mono d,B,b,g,λp hp=>(z p hp).mono d,?_⟩
  have O:(b.flatMap AT).length=s.waits.length*2:=by rw[Aj AT 2 Bl,<-g,length_map]
  rcases r with h0|⟨wb,wo,rfl,I⟩
  ·have hz:s.waits.length=0:=by grind
   rw[h0,hz]
   cases e with
   |none=>grind[Own.nil]
   |some ba=>grind
  exact .inr ⟨rfl,O,_,rfl,.inr rfl,λi u hu=>(I i u hu).mono d⟩
 refine gC (Wd s lv xs a c ps M1 X (hs.mono d) hp (λp hp=>(Y p hp).mono d) N bb _ S j k l J D t) ?_;rintro _ M2 R2 ap ⟨rfl,R⟩
 refine gt ?_
 have L:=Hl h j D t
 obtain⟨C,⟨ai,_⟩,⟨aj,_⟩⟩:=id L
 refine Kq R (by simp) ?_
 intro M3 H E F G ao e3 k1 k2 k3 k4
 refine gc (DP (mkS s lv xs) bb H E F G M3 e3 k1 k2 k3 k4 C (by omega) (by omega)) ?_;rintro _ M4 am f
 obtain⟨q1,q2,q3,q4,rfl,f1,f2,f3,f4⟩:=f.ex
 obtain⟨au,aq,aa,rfl,_⟩:=id f1
 obtain⟨ac,ab,T,rfl,_⟩:=id f2
 obtain⟨ae,ad,rfl,_⟩:=id f3
 obtain⟨ag,af,rfl,_⟩:=id f4
 refine gr ?_
 exact⟨⟨_,rfl,f⟩,rfl⟩
end Go.Proofs.YtdahhoicackcaaaGreat
