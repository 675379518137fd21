/- Walks: a reference taken away on a bench. -/
import Derived.Test.YtjheijhahehnmaaGreatDoorZHn
import Derived.Test.YtjheijhahehnmaaGreatDoorZOwn
namespace Go.Proofs.YtjheijhahehnmaaGreatDoor
open Go.Proofs.Tryz
open List (replicate take_left' drop_append drop_eq_nil_of_le nil_append flatten_cons length_append range range_succ flatMap_append getElem_mem length length_map length_nil map_map append_nil length_replicate)
set_option linter.unusedSimpArgs false
set_option linter.unusedVariables false
set_option linter.unusedSectionVars false
set_option maxHeartbeats 40000000
set_option maxRecDepth 8000
open Go.RowKit
abbrev wSa:TypeId:=229
def Cs(pre:List By)(rem:Nat):List Value:=Aa pre++replicate rem (Value.int .u8 0)
theorem Zc(b:List By)(a:Nat):(Cs b a).length=b.length+a:=by simp[Cs,Aa]
variable{rem:Nat}
theorem WN{a x:List By}(h:x.length<=rem):(Cs a rem).take a.length++Aa x++(Cs a rem).drop (a.length+(Aa x).length)=Cs (a++x) (rem-x.length):=by
 unfold Cs;rw[take_left' (Ad a),Ad,drop_append,Ad,drop_eq_nil_of_le (by rw[Ad];omega),nil_append,Nat.add_sub_cancel_left,List.drop_replicate];simp[Aa]
theorem RF(f e:Nat)(d x:List By)(b:Nat)(a:Option Addr)(c:Nat)(M:Mem)(j:x.length<=c)(hs:SM M a (Aa x))(k:0<x.length)(g:x.length<=b)(i:b<=1000000000):
  SpecL prog 148 #[pB f,.slice a x.length c] M [(f,cE [.slice (some ⟨e,d.length,none⟩) b b] wSa),(e,cE (Cs d b) 5)] λu M' h=>u=.slice (some ⟨e,d.length,none⟩) x.length x.length/\M=M'/\h=[(f,cE [.slice (HE (some ⟨e,d.length,none⟩) x.length b 1) (b-x.length) (b-x.length)] wSa),(e,cE (Cs (d++x) (b-x.length)) 5)]:=by
 refine sB func148 ntmps148 ?_;intro W;refine gh ?_;refine lh (WQ (cs:=Aa x) rfl rfl rfl rfl (by rw[Ad];omega) (hs.sj _) (BM _) (by rw[Ad,Zc];omega)) ?_;rintro _ _ _ ⟨rfl,rfl,rfl⟩;rw[WN g,Ad];refine gh ?_;refine lq (Bh (CL rfl rfl rfl (.of (v:=x.length) rfl (by omega) (by omega)) (.of (v:=x.length) rfl (by omega) (by omega)) (.no _) (by omega) (by simp)) (v':=.slice (some ⟨e,d.length,none⟩) x.length x.length) (by rw[AU];rfl)) ?_;refine gh ?_;refine lq (CL rfl rfl rfl (.no _) (.no _) (.of (v:=x.length) rfl (by omega) (by omega)) (by omega) (by simp)) ?_;refine lq (BY rfl rfl rfl) ?_;refine DE rfl (Ao rfl rfl rfl rfl rfl rfl rfl rfl) ?_;rintro _ _ _ ⟨rfl,rfl⟩;refine Ai (jT (Ah (Af ?_)));iterate 2 refine jp rfl ?_
 refine Ai (jT (Bq ?_));refine FX rfl rfl ?_;grind
theorem N4:∀{ds:List (List By)},(∀d∈ds,d.length=128)->ds.flatten.length=128*ds.length
 |[],_=>rfl
 |d::ds,h=>by
  rw[flatten_cons,length_append,h d (by simp),N4 (λx a=>h x (by simp[a])),List.length_cons];omega
theorem N5:∀{ds:List (List By)}{j i:Nat},(∀d∈ds,d.length=128)->i<128->ds.flatten[128*j+i]? =(ds[j]?).bind (·[i]?)
 |[],j,i,_,_=>by simp
 |d::ds,0,i,h,a=>by
  rw[flatten_cons,List.getElem?_append_left (by rw[h d (by simp)];omega)];simp
 |d::ds,j+1,i,h,a=>by
  rw[flatten_cons,List.getElem?_append_right (by rw[h d (by simp)];omega),h d (by simp),show 128*(j+1)+i-128=128*j+i by omega,N5 (λx b=>h x (by simp[b])) a];simp
theorem WM(n:Nat):(replicate ((n:Nat):Int).toNat [Value.int .u8 0]).flatten=Cs [] n:=by simp[Cs,Aa]
def wFd:Value:=.slice none 0 0
def Hz(hb j:Nat):Value:=.slice (some ⟨hb,128*j,none⟩) 128 128
def Va(hb n i:Nat):List Value:=(range i).map (Hz hb)++replicate (n-i) wFd
def Sy(hb n:Nat)(ws:List Wt)(i:Nat):List Value:=(range i).flatMap (λj=>[.int .i64 (ws.getD j (0,[])).1,Hz hb (n+j)])++(replicate (ws.length+1-i) [.int .i64 0,wFd]).flatten
theorem JF(a n:Nat):(replicate ((n:Nat):Int).toNat [Value.slice none 0 0]).flatten=Va a n 0:=by simp[Va,wFd]
theorem HS(b n:Nat)(a:List Wt)(k:Int)(hk:k=((a.length+1:Nat):Int)):(replicate k.toNat [Value.int .i64 0,Value.slice none 0 0]).flatten=Sy b n a 0:=by grind[Sy,wFd]
variable{hb i n:Nat}
theorem wWf(h:i<=n):(Va hb n i).length=n:=by grind[Va]
variable{ws:List Wt}
theorem Z3(h:i<=ws.length):(Sy hb n ws i).length=2*(ws.length+1):=by
 have e:∀k,((range k).flatMap (λj=>[Value.int .i64 (ws.getD j (0,[])).1,Hz hb (n+j)])).length=2*k:=λk=>by
  induction k with
  |zero=>rfl
  |succ k a=>rw[range_succ,flatMap_append,length_append,a];simp;omega
 rw[Sy,length_append,e];simp;omega
theorem wRq{o:Nat}(h:i<n)(b:o=i):(Va hb n i).take o++[Hz hb i]++(Va hb n i).drop (o+[Hz hb i].length)=Va hb n (i+1):=by
 subst b;have a:((range o).map (Hz hb)).length=o:=by simp
 unfold Va;rw[take_left' a,drop_append,drop_eq_nil_of_le (by rw[a];simp),a,nil_append,List.drop_replicate,range_succ,List.map_append];simp;omega
variable{cs:List Value}
theorem wJp{o:Nat}(h:i<ws.length)(d:o=i*2)(b:cs=[.int .i64 (ws.getD i (0,[])).1,Hz hb (n+i)]):(Sy hb n ws i).take o++cs++(Sy hb n ws i).drop (o+cs.length)=Sy hb n ws (i+1):=by
 subst d;subst b;have a:((range i).flatMap (λj=>[Value.int .i64 (ws.getD j (0,[])).1,Hz hb (n+j)])).length=i*2:=by
  induction i with
  |zero=>rfl
  |succ k c=>rw[range_succ,flatMap_append,length_append,c (by omega)];simp;omega
 unfold Sy;rw[take_left' a,drop_append,drop_eq_nil_of_le (by rw[a];simp),a,nil_append,range_succ,flatMap_append];rw[show ws.length+1-i=(ws.length+1-(i+1))+1 by omega,List.replicate_succ,flatten_cons];simp
theorem Yt(bs:List (List By)):(range bs.length).map (λj=>bs.getD j [])=bs:=by
 apply List.ext_getElem?;grind
theorem Ys(a:List Wt):(range a.length).map (λj=>a.getD j (0,[]))=a:=by
 apply List.ext_getElem?;grind
variable{M:Mem}{ds:List (List By)}
theorem wQp{j:Nat}(h:∀d∈ds,d.length=128)(a:M hb=some (cE (Cs ds.flatten 0) 5))(c:j<ds.length):BS M (Hz hb j) ds[j]:=by
 have b:=h ds[j] (getElem_mem c);refine⟨_,128,by rw[b];rfl,by omega,.inr ⟨hb,128*j,rfl,λi u e=>⟨_,_,_,a,?_⟩⟩⟩;grind[Ad,N5,Cs,Aa]
theorem Tu(bs:List (List By))(b:List Wt)(C:Option Addr)(y:Nat)(Q:List (List By×Value))(B:Option Addr)(s:Nat)(P:List (Wt×Value))(M:Mem)(a4:bs.length<=y)(ab:SM M C (Q.map (·.2)))(K:Q.map (·.1)=bs)(ag:∀p∈Q,BS M p.2 p.1)(a3:b.length<=s)(aa:SM M B (P.flatMap AZ))(J:P.map (·.1)=b)(af:∀p∈P,BS M p.2 p.1.2)(ak:Jv bs b):
  SpecL prog 80 #[.agg #[.slice C bs.length y,.slice B b.length s]] M [] λu M' L'=>∃ai Z,u=.agg #[ai,Z]/\LS M' ai bs/\∃ps:List (Wt×Value),ps.map (·.1)=b/\(∀p∈ps,BS M' p.2 p.1.2)/\Own Z L' WT 2 b.length (ps.flatMap AZ):=by
 obtain⟨ay,ax,T,S⟩:=id ak;have ae:∀d∈bs++b.map (·.2),d.length=128:=λd U=>by
  rcases List.mem_append.1 U with U|U
  ·exact T d U
  obtain⟨w,hw,rfl⟩:=List.mem_map.1 U;exact(S w hw).2.2
 have a0:(bs++b.map (·.2)).length=bs.length+b.length:=by simp
 have ac:∀i,i<=bs.length+b.length->(((bs++b.map (·.2)).take i).flatten).length=128*i:=λi hi=>by rw[N4 (λd U=>ae d (List.mem_of_mem_take U)),List.length_take];congr 1;omega
 refine sB func80 ntmps80 ?_;intro W;refine Ke λo z=>?_;refine CC (α:=Nat) (λk=>[(1,pB o),(2,pB z),(3,.int .i64 ((128*k:Nat):Int)),(15,.slice C bs.length y),(16,.int .i64 bs.length),(17,.int .i64 k)]) (λ_=>M) (λ_=>[(z,cE [.slice none 0 0,.slice none 0 0] 25),(o,cE [.slice C bs.length y,.slice B b.length s] 25)]) (λk=>k<=bs.length) (λk=>bs.length-k) 0 (Nat.zero_le _) ?_;rintro k hk;try dsimp only at hk⊢
 refine gj (λaq=>?_) λaq=>?_
 ·refine gh ?_;have n:k<bs.length:=by omega
  obtain⟨sb,so,X,R⟩:=ab.open (by intro e;have:=congrArg length e;rw[length_map,length_nil]at this;have V:=congrArg length K;rw[length_map]at V;omega);subst X;obtain⟨N,L,E,H,G⟩:=CX R K ag n;have D:=T bs[k] (getElem_mem _);refine gh ?_;refine lq (Au rfl rfl rfl rfl (E.cj _)) ?_;refine gh ?_;refine BD (k+1) (by show k+1<=bs.length;omega) (hk:=(Keep.cons (t:=1) rfl (Keep.cons (t:=2) rfl (Keep.ceq (t:=3) rfl (by rw[D];congr 1) (Keep.cons (t:=15) rfl (Keep.cons (t:=16) rfl (Keep.cons (t:=17) rfl Keep.nil)))))))
 refine gh ?_;obtain rfl:k=bs.length:=by omega
 refine CC (α:=Nat) (λk=>[(1,pB o),(2,pB z),(3,.int .i64 ((128*(bs.length+k):Nat):Int)),(27,.slice B b.length s),(28,.int .i64 b.length),(29,.int .i64 k)]) (λ_=>M) (λ_=>[(z,cE [.slice none 0 0,.slice none 0 0] 25),(o,cE [.slice C bs.length y,.slice B b.length s] 25)]) (λk=>k<=b.length) (λk=>b.length-k) 0 (Nat.zero_le _) ?_;rintro k hk;try dsimp only at hk⊢
 refine gj (λap=>?_) λap=>?_
 ·refine gh ?_;have n:k<b.length:=by omega
  obtain⟨sb,so,X,R⟩:=aa.open (by intro e;have:=congrArg length e;rw[Aj AZ 2 BX,length_nil]at this;have V:=congrArg length J;rw[length_map]at V;omega);subst X;obtain⟨N,L,E,H,G⟩:=JI R J af n;have D:=(S b[k] (getElem_mem _)).2.2;refine gh ?_;refine lq (A1 (cs:=wXy b[k] N L) rfl rfl rfl rfl rfl (λi v hv=>(E i v hv).cj _)) ?_;refine ga λb7=>?_;refine BD (k+1) (by show k+1<=b.length;omega) (hk:=(Keep.cons (t:=1) rfl (Keep.cons (t:=2) rfl (Keep.ceq (t:=3) rfl (by rw[D];congr 1) (Keep.cons (t:=27) rfl (Keep.cons (t:=28) rfl (Keep.cons (t:=29) rfl Keep.nil)))))))
 refine gh ?_;obtain rfl:k=b.length:=by omega
 refine lh (D1 rfl rfl rfl rfl (by omega) (by rfl)) ?_;rintro _ _ _ ⟨a,rfl,rfl,rfl⟩;rw[WM];refine ga λm=>?_;refine AV ([(o,cE [.slice C bs.length y,.slice B b.length s] 25)]) (by kernel_rfl) (by simp) ?_;refine gk [0,1,2,4,5,6,7,8,9,10] ?_;refine Eg (α:=Nat×Nat×Nat) (λ_=>True) (λx=>[(1,pB o),(2,pB z),(8,pB m),(9,.pointer (some ⟨x.2.2,0,none⟩)),(53,.agg [.slice (some ⟨x.1,0,none⟩) bs.length bs.length,.slice (some ⟨x.2.1,0,none⟩) b.length (b.length+1)].toArray)]) (λ_=>M) (λx=>[(m,cE [.slice (some ⟨a,0,none⟩) (128*(bs.length+b.length-(0))) (128*(bs.length+b.length-(0)))] wSa),(a,cE (Cs ((bs++b.map (·.2)).take (0)).flatten (128*(bs.length+b.length-(0)))) 5),(x.1,cE (Va a bs.length 0) 26),(x.2.1,cE (Sy a bs.length b 0) WT),(x.2.2,cE [.slice none 0 0,.slice none 0 0] 25),(z,cE [.slice none 0 0,.slice none 0 0] 25),(o,cE [.slice C bs.length y,.slice B b.length s] 25)]) 1 #[true,true,true,true,true,true,true,true,true,true,true,true,true,true,false] ?_ (λrest=>?_)
 ·rintro ⟨f,c,l⟩ _;try dsimp only
  refine aO 14 ?_;refine Ug rfl rfl (Ao rfl rfl rfl rfl rfl rfl rfl rfl) ?_;rintro _ _ _ ⟨rfl,rfl⟩;refine aG (MLe.refl _) ?_;refine FP (by kernel_rfl) ?_;refine gh ?_;refine CC (α:=Nat×Option Addr) (λx=>[(1,pB o),(2,pB z),(8,pB m),(9,pB l),(55,.slice C bs.length y),(56,.int .i64 bs.length),(57,.int .i64 (x.1:Int))]) (λ_=>M) (λx=>[(m,cE [.slice x.2 (128*(bs.length+b.length-(x.1))) (128*(bs.length+b.length-(x.1)))] wSa),(a,cE (Cs ((bs++b.map (·.2)).take (x.1)).flatten (128*(bs.length+b.length-(x.1)))) 5),(f,cE (Va a bs.length (x.1)) 26),(c,cE (Sy a bs.length b (0)) WT),(l,cE [.slice (some ⟨f,0,none⟩) bs.length bs.length,.slice (some ⟨c,0,none⟩) b.length (b.length+1)] 25),(z,cE [.slice none 0 0,.slice none 0 0] 25),(o,cE [.slice C bs.length y,.slice B b.length s] 25)]) (λx=>x.1<=bs.length/\(0<128*(bs.length+b.length-x.1)->x.2=some ⟨a,((bs++b.map (·.2)).take (x.1)).flatten.length,none⟩)) (λx=>bs.length-x.1) (0,some ⟨a,0,none⟩) ⟨Nat.zero_le _,λ_=>rfl⟩ ?_;rintro⟨k,A⟩ ⟨hk,Y⟩;try dsimp only at hk Y⊢
  refine gj (λao=>?_) λao=>?_
  ·refine gh ?_;have n:k<bs.length:=by omega
   obtain⟨sb,so,X,R⟩:=ab.open (by intro e;have:=congrArg length e;rw[length_map,length_nil]at this;have V:=congrArg length K;rw[length_map]at V;omega);subst X;obtain⟨N,L,E,H,G⟩:=CX R K ag n;have D:=T bs[k] (getElem_mem _);refine gh ?_;refine lq (Au rfl rfl rfl rfl (E.cj _)) ?_;refine gh ?_;refine D7 [0,1,2,3,104,5,106] [(l,cE [.slice (some ⟨f,0,none⟩) bs.length bs.length,.slice (some ⟨c,0,none⟩) b.length (b.length+1)] 25)] ?_;refine gh ?_;obtain rfl:A=some ⟨a,((bs++b.map (·.2)).take (k)).flatten.length,none⟩:=Y (by omega);have F:=GV (bs:=bs++b.map (·.2)) (k:=k) (by omega);rw[List.getElem_append_left n]at F;have I:=ac k (by omega);refine dh rfl (hC (RF m a ((bs++b.map (·.2)).take (k)).flatten bs[k] (128*(bs.length+b.length-(k))) N L M H G (by omega) (by omega) (by omega))) ?_;rintro _ M' _ ⟨_,_,rfl,⟨rfl,rfl,rfl⟩⟩;refine⟨MLe.refl _,by simp,?_⟩;rw[I,D,<-F,show 128*(bs.length+b.length-k)-128=128*(bs.length+b.length-(k+1))by omega,show (Value.slice (some ⟨a,128*k,none⟩) 128 128)=Hz a k from rfl];refine gh ?_;refine DF rfl rfl (Ns rfl rfl rfl rfl rfl rfl (by simp[Value.oneCell',Hz]) (by rw[wWf (by omega)];show _+1<=_;omega)) ?_;rintro _ _ _ ⟨rfl,rfl⟩;refine⟨_,_,MLe.refl _,MLe.refl _,λ_ h=>h,by simp,?_⟩;rw[wRq (by omega) (by omega)];refine gh ?_;refine BD (k+1,HE (some ⟨a,128*k,none⟩) 128 (128*(bs.length+b.length-k)) 1) ⟨by show k+1<=bs.length;omega,?_⟩;grind[HE,AH]
  refine gh ?_;obtain rfl:k=bs.length:=by omega
  refine CC (α:=Nat×Option Addr) (λx=>[(1,pB o),(2,pB z),(8,pB m),(9,pB l),(70,.slice B b.length s),(71,.int .i64 b.length),(72,.int .i64 (x.1:Int))]) (λ_=>M) (λx=>[(m,cE [.slice x.2 (128*(bs.length+b.length-(bs.length+x.1))) (128*(bs.length+b.length-(bs.length+x.1)))] wSa),(a,cE (Cs ((bs++b.map (·.2)).take (bs.length+x.1)).flatten (128*(bs.length+b.length-(bs.length+x.1)))) 5),(f,cE (Va a bs.length (bs.length)) 26),(c,cE (Sy a bs.length b (x.1)) WT),(l,cE [.slice (some ⟨f,0,none⟩) bs.length bs.length,.slice (some ⟨c,0,none⟩) b.length (b.length+1)] 25),(z,cE [.slice none 0 0,.slice none 0 0] 25),(o,cE [.slice C bs.length y,.slice B b.length s] 25)]) (λx=>x.1<=b.length/\(0<128*(bs.length+b.length-(bs.length+x.1))->x.2=some ⟨a,((bs++b.map (·.2)).take (bs.length+x.1)).flatten.length,none⟩)) (λx=>b.length-x.1) (0,A) ⟨Nat.zero_le _,Y⟩ ?_;rintro⟨k,A⟩ ⟨hk,Y⟩;try dsimp only at hk Y⊢
  refine gj (λam=>?_) λam=>?_
  ·refine gh ?_;have n:k<b.length:=by omega
   obtain⟨sb,so,X,R⟩:=aa.open (by intro e;have:=congrArg length e;rw[Aj AZ 2 BX,length_nil]at this;have V:=congrArg length J;rw[length_map]at V;omega);subst X;obtain⟨N,L,E,H,G⟩:=JI R J af n;have D:=(S b[k] (getElem_mem _)).2.2;refine gh ?_;refine lq (A1 (cs:=wXy b[k] N L) rfl rfl rfl rfl rfl (λi v hv=>(E i v hv).cj _)) ?_;refine ga λaw=>?_;refine D7 [0,1,2,3,4,5,6,107,8,9,110] [(aw,cE (wXy b[k] N L) WT),(l,cE [.slice (some ⟨f,0,none⟩) bs.length bs.length,.slice (some ⟨c,0,none⟩) b.length (b.length+1)] 25)] ?_;refine gh ?_;obtain rfl:A=some ⟨a,((bs++b.map (·.2)).take (bs.length+k)).flatten.length,none⟩:=Y (by omega);have F:=GV (bs:=bs++b.map (·.2)) (k:=bs.length+k) (by omega);rw[List.getElem_append_right (by omega)]at F;simp only[Nat.add_sub_cancel_left,List.getElem_map]at F;have I:=ac (bs.length+k) (by omega);refine dh rfl (hC (RF m a ((bs++b.map (·.2)).take (bs.length+k)).flatten b[k].2 (128*(bs.length+b.length-(bs.length+k))) N L M H G (by omega) (by omega) (by omega))) ?_;rintro _ M' _ ⟨_,_,rfl,⟨rfl,rfl,rfl⟩⟩;refine⟨MLe.refl _,by simp,?_⟩;rw[I,D,<-F,show 128*(bs.length+b.length-(bs.length+k))-128=128*(bs.length+b.length-(bs.length+(k+1)))by omega,show (Value.slice (some ⟨a,128*(bs.length+k),none⟩) 128 128)=Hz a (bs.length+k)from rfl];refine gh ?_;refine DF rfl rfl (Ns (cs:=[.int .i64 b[k].1,Hz a (bs.length+k)]) rfl rfl rfl rfl rfl rfl (by simp[Value.oneCell',Hz]) (by rw[Z3 (by omega)];show _+2<=_;omega)) ?_;rintro _ _ _ ⟨rfl,rfl⟩;refine⟨_,_,MLe.refl _,MLe.refl _,λ_ h=>h,by simp,?_⟩;rw[wJp (by omega) (by omega) (by rw[show b.getD k (0,[])=b[k]from Ej n _])];refine gh ?_;refine Hp (k+1,HE (some ⟨a,128*(bs.length+k),none⟩) 128 (128*(bs.length+b.length-(bs.length+k))) 1) (Keep.cons (t:=1) rfl (Keep.cons (t:=2) rfl (Keep.cons (t:=8) rfl (Keep.cons (t:=9) rfl (Keep.cons (t:=70) rfl (Keep.cons (t:=71) rfl (Keep.cons (t:=72) rfl Keep.nil))))))) ⟨by show k+1<=b.length;omega,?_⟩ (by show b.length-(k+1)<b.length-k;omega) (λ_ h=>h.fewer (.cons_cons _ (.cons_cons _ (.cons _ (.refl _)))));grind[HE,AH]
  refine gh ?_;obtain rfl:k=b.length:=by omega
  refine AF a (by simp) ?_;intro Ma a5 av;refine AF f (by simp) ?_;intro Mb al au;refine zd ([(c,cE (Sy a bs.length b (b.length)) WT)]) rfl ?_;have O:=al _ _ av;rw[Nat.sub_self,Nat.mul_zero,List.take_of_length_le (by omega)]at O;have ah:=au;refine⟨_,_,rfl,?_,(range b.length).map (λj=>(b.getD j (0,[]),Hz a (bs.length+j))),?_,?_,?_⟩
  ·refine ⟨_,_,(range bs.length).map (λj=>(bs.getD j [],Hz a j)),rfl,Nat.le_refl _,?_,?_,?_⟩
   ·rw [map_map];have:=SM.of_block ah;unfold Va at this;rw[Nat.sub_self,List.replicate_zero,append_nil]at this;exact this
   ·rw [map_map];exact Yt bs
   grind[wQp,BS,Ej]
  ·rw [map_map];exact Ys b
  ·intro p hp;obtain⟨j,hj,rfl⟩:=List.mem_map.1 hp;have az:=List.mem_range.1 hj;have:=wQp ae O (j:=bs.length+j) (by omega);grind
  have ad:((range b.length).map (λj=>(b.getD j (0,[]),Hz a (bs.length+j)))).flatMap AZ=(range b.length).flatMap (λj=>[Value.int .i64 (b.getD j (0,[])).1,Hz a (bs.length+j)]):=by rw[List.flatMap_map];rfl
  have aj:((range b.length).flatMap (λj=>[Value.int .i64 (b.getD j (0,[])).1,Hz a (bs.length+j)])).length=b.length*2:=by rw[<-ad,Aj AZ 2 BX];simp
  rw[ad];refine⟨aj,.inr ⟨c,b.length+1,_,rfl,rfl,Nat.le_succ _,?_,?_,?_⟩⟩
  ·unfold maxLen;omega
  ·grind [Sy,Z3]
  grind[Sy]
 refine Bf [3,11,13] (by kernel_rfl) rfl ⟨?_,?_,?_,trivial⟩
 ·refine sh rfl (D1 rfl rfl rfl rfl (by omega) (by rfl)) ?_;rintro _ _ _ ⟨f,rfl,rfl,rfl⟩;refine aG (MLe.refl _) ?_;rw[JF a];refine Bf [11,13] (by kernel_rfl) rfl ⟨?_,?_,trivial⟩
  ·refine sh rfl (D1 rfl rfl rfl rfl (by omega) (by rfl)) ?_;rintro _ _ _ ⟨c,rfl,rfl,rfl⟩;refine aG (MLe.refl _) ?_;rw[HS a bs.length b _ (by omega)];refine Et (i:=12) rfl (by kernel_rfl) (by kernel_rfl) rfl rfl (BF (cs:=[_,_]) rfl rfl rfl (by rfl)) ?_;refine aO 13 ?_;refine sh rfl (AX rfl rfl) ?_;rintro _ _ _ ⟨l,rfl,rfl,rfl⟩;refine aG (MLe.refl _) ?_;refine B3 (listed':=#[true,true,true,true,true,true,true,true,true,true,true,true,true,true,false]) (by kernel_rfl) (BZ (Keep.cons (t:=1) rfl (Keep.cons (t:=2) rfl (Keep.cons (t:=8) rfl (Keep.cons (t:=9) rfl (Keep.cons (t:=53) rfl Keep.nil))))) ?_);refine Cp (M2:=M) (L2:=[(m,cE [.slice (some ⟨a,0,none⟩) (128*(bs.length+b.length-(0))) (128*(bs.length+b.length-(0)))] wSa),(a,cE (Cs ((bs++b.map (·.2)).take (0)).flatten (128*(bs.length+b.length-(0)))) 5),(f,cE (Va a bs.length (0)) 26),(c,cE (Sy a bs.length b (0)) WT),(l,cE [.slice none 0 0,.slice none 0 0] 25),(z,cE [.slice none 0 0,.slice none 0 0] 25),(o,cE [.slice C bs.length y,.slice B b.length s] 25)]) (λw h=>h.perm ((Rm.perm (g:=m)).trans (List.Perm.cons _ ((Rm.perm (g:=a)).trans (List.Perm.cons _ ((Rm.perm (g:=f)).trans (List.Perm.cons _ ((Rm.perm (g:=c)).trans (List.Perm.cons _ (Rm.perm (g:=l))))))))))) (MLe.refl _) (by simp) ?_;simp_all
  refine sh rfl (AX rfl rfl) ?_;rintro _ _ _ ⟨l,rfl,rfl,rfl⟩;refine aG (MLe.refl _) ?_;refine aO 11 ?_;refine sh rfl (D1 rfl rfl rfl rfl (by omega) (by rfl)) ?_;rintro _ _ _ ⟨c,rfl,rfl,rfl⟩;refine aG (MLe.refl _) ?_;rw[HS a bs.length b _ (by omega)];refine Et (i:=12) rfl (by kernel_rfl) (by kernel_rfl) rfl rfl (BF (cs:=[_,_]) rfl rfl rfl (by rfl)) ?_;refine B3 (listed':=#[true,true,true,true,true,true,true,true,true,true,true,true,true,true,false]) (by kernel_rfl) (BZ (Keep.cons (t:=1) rfl (Keep.cons (t:=2) rfl (Keep.cons (t:=8) rfl (Keep.cons (t:=9) rfl (Keep.cons (t:=53) rfl Keep.nil))))) ?_);refine Cp (M2:=M) (L2:=[(m,cE [.slice (some ⟨a,0,none⟩) (128*(bs.length+b.length-(0))) (128*(bs.length+b.length-(0)))] wSa),(a,cE (Cs ((bs++b.map (·.2)).take (0)).flatten (128*(bs.length+b.length-(0)))) 5),(f,cE (Va a bs.length (0)) 26),(c,cE (Sy a bs.length b (0)) WT),(l,cE [.slice none 0 0,.slice none 0 0] 25),(z,cE [.slice none 0 0,.slice none 0 0] 25),(o,cE [.slice C bs.length y,.slice B b.length s] 25)]) (λw h=>h.perm ((Rm.perm (g:=m)).trans (List.Perm.cons _ ((Rm.perm (g:=a)).trans (List.Perm.cons _ ((Rm.perm (g:=f)).trans (List.Perm.cons _ ((Rm.perm (g:=c)).trans (List.Perm.cons _ (Rm.perm (g:=l))))))))))) (MLe.refl _) (by simp) ?_;simp_all
 ·refine sh rfl (D1 rfl rfl rfl rfl (by omega) (by rfl)) ?_;rintro _ _ _ ⟨c,rfl,rfl,rfl⟩;refine aG (MLe.refl _) ?_;rw[HS a bs.length b _ (by omega)];refine Bf [3,13] (by kernel_rfl) rfl ⟨?_,?_,trivial⟩
  ·refine sh rfl (D1 rfl rfl rfl rfl (by omega) (by rfl)) ?_;rintro _ _ _ ⟨f,rfl,rfl,rfl⟩;refine aG (MLe.refl _) ?_;rw[JF a];refine Et (i:=12) rfl (by kernel_rfl) (by kernel_rfl) rfl rfl (BF (cs:=[_,_]) rfl rfl rfl (by rfl)) ?_;refine aO 13 ?_;refine sh rfl (AX rfl rfl) ?_;rintro _ _ _ ⟨l,rfl,rfl,rfl⟩;refine aG (MLe.refl _) ?_;refine B3 (listed':=#[true,true,true,true,true,true,true,true,true,true,true,true,true,true,false]) (by kernel_rfl) (BZ (Keep.cons (t:=1) rfl (Keep.cons (t:=2) rfl (Keep.cons (t:=8) rfl (Keep.cons (t:=9) rfl (Keep.cons (t:=53) rfl Keep.nil))))) ?_);refine Cp (M2:=M) (L2:=[(m,cE [.slice (some ⟨a,0,none⟩) (128*(bs.length+b.length-(0))) (128*(bs.length+b.length-(0)))] wSa),(a,cE (Cs ((bs++b.map (·.2)).take (0)).flatten (128*(bs.length+b.length-(0)))) 5),(f,cE (Va a bs.length (0)) 26),(c,cE (Sy a bs.length b (0)) WT),(l,cE [.slice none 0 0,.slice none 0 0] 25),(z,cE [.slice none 0 0,.slice none 0 0] 25),(o,cE [.slice C bs.length y,.slice B b.length s] 25)]) (λw h=>h.perm ((Rm.perm (g:=m)).trans (List.Perm.cons _ ((Rm.perm (g:=a)).trans (List.Perm.cons _ ((Rm.perm (g:=f)).trans (List.Perm.cons _ ((Rm.perm (g:=c)).trans (List.Perm.cons _ (Rm.perm (g:=l))))))))))) (MLe.refl _) (by simp) ?_;simp_all
  refine sh rfl (AX rfl rfl) ?_;rintro _ _ _ ⟨l,rfl,rfl,rfl⟩;refine aG (MLe.refl _) ?_;refine aO 3 ?_;refine sh rfl (D1 rfl rfl rfl rfl (by omega) (by rfl)) ?_;rintro _ _ _ ⟨f,rfl,rfl,rfl⟩;refine aG (MLe.refl _) ?_;rw[JF a];refine Et (i:=12) rfl (by kernel_rfl) (by kernel_rfl) rfl rfl (BF (cs:=[_,_]) rfl rfl rfl (by rfl)) ?_;refine B3 (listed':=#[true,true,true,true,true,true,true,true,true,true,true,true,true,true,false]) (by kernel_rfl) (BZ (Keep.cons (t:=1) rfl (Keep.cons (t:=2) rfl (Keep.cons (t:=8) rfl (Keep.cons (t:=9) rfl (Keep.cons (t:=53) rfl Keep.nil))))) ?_);refine Cp (M2:=M) (L2:=[(m,cE [.slice (some ⟨a,0,none⟩) (128*(bs.length+b.length-(0))) (128*(bs.length+b.length-(0)))] wSa),(a,cE (Cs ((bs++b.map (·.2)).take (0)).flatten (128*(bs.length+b.length-(0)))) 5),(f,cE (Va a bs.length (0)) 26),(c,cE (Sy a bs.length b (0)) WT),(l,cE [.slice none 0 0,.slice none 0 0] 25),(z,cE [.slice none 0 0,.slice none 0 0] 25),(o,cE [.slice C bs.length y,.slice B b.length s] 25)]) (λw h=>h.perm ((Rm.perm (g:=m)).trans (List.Perm.cons _ ((Rm.perm (g:=a)).trans (List.Perm.cons _ ((Rm.perm (g:=f)).trans (List.Perm.cons _ ((Rm.perm (g:=c)).trans (List.Perm.cons _ (Rm.perm (g:=l))))))))))) (MLe.refl _) (by simp) ?_;simp_all
 refine sh rfl (AX rfl rfl) ?_;rintro _ _ _ ⟨l,rfl,rfl,rfl⟩;refine aG (MLe.refl _) ?_;refine Bf [3,11] (by kernel_rfl) rfl ⟨?_,?_,trivial⟩
 ·refine sh rfl (D1 rfl rfl rfl rfl (by omega) (by rfl)) ?_;rintro _ _ _ ⟨f,rfl,rfl,rfl⟩;refine aG (MLe.refl _) ?_;rw[JF a];refine aO 11 ?_;refine sh rfl (D1 rfl rfl rfl rfl (by omega) (by rfl)) ?_;rintro _ _ _ ⟨c,rfl,rfl,rfl⟩;refine aG (MLe.refl _) ?_;rw[HS a bs.length b _ (by omega)];refine Et (i:=12) rfl (by kernel_rfl) (by kernel_rfl) rfl rfl (BF (cs:=[_,_]) rfl rfl rfl (by rfl)) ?_;refine B3 (listed':=#[true,true,true,true,true,true,true,true,true,true,true,true,true,true,false]) (by kernel_rfl) (BZ (Keep.cons (t:=1) rfl (Keep.cons (t:=2) rfl (Keep.cons (t:=8) rfl (Keep.cons (t:=9) rfl (Keep.cons (t:=53) rfl Keep.nil))))) ?_);refine Cp (M2:=M) (L2:=[(m,cE [.slice (some ⟨a,0,none⟩) (128*(bs.length+b.length-(0))) (128*(bs.length+b.length-(0)))] wSa),(a,cE (Cs ((bs++b.map (·.2)).take (0)).flatten (128*(bs.length+b.length-(0)))) 5),(f,cE (Va a bs.length (0)) 26),(c,cE (Sy a bs.length b (0)) WT),(l,cE [.slice none 0 0,.slice none 0 0] 25),(z,cE [.slice none 0 0,.slice none 0 0] 25),(o,cE [.slice C bs.length y,.slice B b.length s] 25)]) (λw h=>h.perm ((Rm.perm (g:=m)).trans (List.Perm.cons _ ((Rm.perm (g:=a)).trans (List.Perm.cons _ ((Rm.perm (g:=f)).trans (List.Perm.cons _ ((Rm.perm (g:=c)).trans (List.Perm.cons _ (Rm.perm (g:=l))))))))))) (MLe.refl _) (by simp) ?_;simp_all
 refine sh rfl (D1 rfl rfl rfl rfl (by omega) (by rfl)) ?_;rintro _ _ _ ⟨c,rfl,rfl,rfl⟩;refine aG (MLe.refl _) ?_;rw[HS a bs.length b _ (by omega)];refine aO 3 ?_;refine sh rfl (D1 rfl rfl rfl rfl (by omega) (by rfl)) ?_;rintro _ _ _ ⟨f,rfl,rfl,rfl⟩;refine aG (MLe.refl _) ?_;rw[JF a];refine Et (i:=12) rfl (by kernel_rfl) (by kernel_rfl) rfl rfl (BF (cs:=[_,_]) rfl rfl rfl (by rfl)) ?_;refine B3 (listed':=#[true,true,true,true,true,true,true,true,true,true,true,true,true,true,false]) (by kernel_rfl) (BZ (Keep.cons (t:=1) rfl (Keep.cons (t:=2) rfl (Keep.cons (t:=8) rfl (Keep.cons (t:=9) rfl (Keep.cons (t:=53) rfl Keep.nil))))) ?_);refine Cp (M2:=M) (L2:=[(m,cE [.slice (some ⟨a,0,none⟩) (128*(bs.length+b.length-(0))) (128*(bs.length+b.length-(0)))] wSa),(a,cE (Cs ((bs++b.map (·.2)).take (0)).flatten (128*(bs.length+b.length-(0)))) 5),(f,cE (Va a bs.length (0)) 26),(c,cE (Sy a bs.length b (0)) WT),(l,cE [.slice none 0 0,.slice none 0 0] 25),(z,cE [.slice none 0 0,.slice none 0 0] 25),(o,cE [.slice C bs.length y,.slice B b.length s] 25)]) (λw h=>h.perm ((Rm.perm (g:=m)).trans (List.Perm.cons _ ((Rm.perm (g:=a)).trans (List.Perm.cons _ ((Rm.perm (g:=f)).trans (List.Perm.cons _ ((Rm.perm (g:=c)).trans (List.Perm.cons _ (Rm.perm (g:=l))))))))))) (MLe.refl _) (by simp) ?_;simp_all
variable{P:Program}{args:Array Value}{f:FuncId}{post:Value->Mem->Lc->Prop}
theorem SpecL.own{d:Value->Mem->Lc->Prop}(h:SpecL P f args M [] post)
  (hk:∀v M' L',post v M' L'->∃u e g n xs,Own u L' e g n xs/\∀b a c,MLe M' b->u=.slice a n c->n<=c->SM b a xs->d v b []):SpecL P f args M [] d:=λw o=>
 (h w o).mono λe D ⟨v,M',L',C,B,z⟩=>by
  obtain⟨u,t,g,n,xs,y,s⟩:=hk v M' L' B
  obtain⟨b,a,c,m,l,k,j,i⟩:=y.freeze (X:=[]) (L:=[]) (λ_ _ h=>by cases h) (by rw[append_nil];exact z)
  exact⟨v,b,[],C,s b a c m l k j,i⟩
theorem ZC(bs:List (List By))(g:List Wt)(B:Option Addr)(y:Nat)(e:List (List By×Value))(z:Option Addr)(w:Nat)(d:List (Wt×Value))(M:Mem)(n:bs.length<=y)(i:SM M B (e.map (·.2)))(k:e.map (·.1)=bs)(s:∀p∈e,BS M p.2 p.1)(m:g.length<=w)(h:SM M z (d.flatMap AZ))(j:d.map (·.1)=g)(o:∀p∈d,BS M p.2 p.1.2)(l:Jv bs g):
  SpecL prog 80 #[.agg #[.slice B bs.length y,.slice z g.length w]] M [] λu M' D=>(∃f b,u=.agg #[f,b]/\LS M' f bs/\WS M' b g)/\D=[]:=
 (Tu bs g B y e z w d M n i k s m h j o l).own λv M' D ⟨f,b,O,N,E,L,K,J⟩=>
  ⟨_,_,_,_,_,J,λP a c C H G F=>⟨⟨f,b,O,N.mono C,a,c,E,H,G,F,L,λp I=>(K p I).mono C⟩,rfl⟩⟩
theorem ZD(bs:List (List By))(c:List Wt)(u v:Value)(M:Mem)(s:LS M u bs)(o:WS M v c)(h:Jv bs c):SpecL prog 80 #[.agg #[u,v]] M [] λu M' w=>(∃b a,u=.agg #[b,a]/\LS M' b bs/\WS M' a c)/\w=[]:=by
 obtain⟨C,z,e,rfl,l,g,j,n⟩:=s;obtain⟨B,y,d,rfl,k,f,i,m⟩:=o;grind[ZC]
abbrev TSt:TypeId:=28
theorem KJ(s:Sto)(k i j lv:Value)(M:Mem)(I:LS M k s.blocks)(H:WS M i s.waits)(G:BS M j s.now)(F:BS M lv s.last)(n:Jv s.blocks s.waits)(D:s.now.length<=100000)(E:s.last.length<=100000):
  SpecL prog 39 #[.agg #[k,i,j,lv]] M [] λu M' S=>ST M' u s/\S=[]:=by
 refine sB func39 ntmps39 ?_;intro W;refine Ke λO b2=>?_;refine D7 [0,1,3,4,6,7,102,105,108,9,110] [(O,cE [k,i,j,lv] TSt)] ?_;refine gh ?_;refine dh rfl (hC (ZD s.blocks s.waits k i M I H n)) ?_;rintro _ R _ ⟨e,_,rfl,⟨⟨L,B,rfl,z,y⟩,rfl⟩⟩;refine⟨e,by simp,?_⟩;obtain⟨ba,bc,N,rfl,_⟩:=id z;obtain⟨U,T,C,rfl,_⟩:=id y;refine dh rfl (hC (B6 j s.now R (G.mono e) D)) ?_;rintro _ Q _ ⟨c,R8,rfl,b⟩;refine⟨c,by simp,?_⟩;obtain⟨X,V,rfl⟩:=b.form;refine dh rfl (hC (B6 lv s.last Q (F.mono (e.trans c)) E)) ?_;rintro _ M3 _ ⟨d,P,rfl,a⟩;refine⟨d,by simp,?_⟩;obtain⟨Z,Y,rfl⟩:=a.form;refine dq rfl (BF (cs:=[_,_,_,_]) rfl rfl rfl (by rfl)) ?_;refine DF rfl rfl (Ao rfl rfl rfl rfl rfl rfl rfl rfl) ?_;rintro _ _ _ ⟨rfl,rfl⟩;refine⟨_,_,MLe.refl _,(e.trans c).trans d,λ_ h=>h,by simp,?_⟩;refine gh ?_;refine BK b (by simp) ?_;intro M4 a4 c4 g K w m;cases K;refine BK a (by simp) ?_;intro M5 a5 c5 f J o l;cases J;refine gr ?_;exact⟨⟨_,_,_,_,rfl,z.mono (c.trans (d.trans (g.trans f))),y.mono (c.trans (d.trans (g.trans f))),⟨_,_,rfl,w,m.mono f⟩,⟨_,_,rfl,o,l⟩⟩,rfl⟩
theorem D5(s:Sto)(p:Nat)(c a b lv:Value)(M:Mem)(e:M p=some (cE [c,a,b,lv] Ew))(C:LS M c s.blocks)(B:WS M a s.waits)(z:BS M b s.now)(y:BS M lv s.last)(f:Jv s.blocks s.waits)(n:s.now.length<=100000)(o:s.last.length<=100000):
  SpecL prog 49 #[pB p] M [] λu M' E=>ST M' u s/\E=[]:=by
 refine sB func49 ntmps49 ?_;intro W;refine ga λS=>?_;refine lq (A1 (cs:=[c,a,b,lv]) rfl rfl rfl rfl rfl (λi v m=>CM.cj ⟨_,_,_,e,by simpa using m⟩ _)) ?_;refine gc (KJ s c a b lv M C B z y f n o) ?_;rintro _ T w d;obtain⟨K,J,I,H,rfl,k,j,h,g⟩:=d.ex;obtain⟨R,Q,D,rfl,_⟩:=id k;obtain⟨G,F,l,rfl,_⟩:=id j;obtain⟨N,L,rfl,_⟩:=id h;obtain⟨P,O,rfl,_⟩:=id g;refine gr ?_;exact⟨⟨_,_,_,_,rfl,k,j,h,g⟩,rfl⟩
def Z128:List By:=replicate 128 0
def Z256:List By:=replicate 256 0
theorem wJm(n:Nat)(k:Int)(hk:k=(n:Int)):(replicate k.toNat [Value.int .u8 0]).flatten=Aa (replicate n 0):=by simp_all [Aa]
theorem z256:(replicate (256:Int).toNat [Value.int .u8 0]).flatten=Aa Z256:=wJm 256 256 rfl
theorem z128:(replicate (128:Int).toNat [Value.int .u8 0]).flatten=Aa Z128:=wJm 128 128 rfl
theorem XO:Z128.length=128:=length_replicate
theorem XN:Z256.length=256:=length_replicate
def Sh(vals:List Value):List Value:=vals++replicate (256-vals.length) wFd
theorem wFf:(replicate (256:Int).toNat [Value.slice none 0 0]).flatten=Sh []:=by
 simp_all [Sh,wFd]
variable{vals:List Value}
theorem wMg(h:vals.length<=256):(Sh vals).length=256:=by grind[Sh]
variable{o:Nat}
theorem wFg{v:Value}(h:vals.length<256)(a:o=vals.length):(Sh vals).take o++[v]++(Sh vals).drop (o+[v].length)=Sh (vals++[v]):=by
 subst a;unfold Sh;rw[take_left' rfl,drop_append,drop_eq_nil_of_le (by simp),nil_append,List.drop_replicate];simp;omega
theorem TC(M:Mem):
  SpecL prog 24 #[] M [] λu M' d=>BS M' u Z256/\d=[]:=by
 refine sB func24 ntmps24 ?_;intro W;refine gh ?_;refine lh (D1 rfl rfl rfl rfl (by omega) (by rfl)) ?_;rintro _ _ _ ⟨c,rfl,rfl,rfl⟩;rw[z256];refine gh ?_;refine AF c (by simp) ?_;intro e a b;refine gr ?_;exact⟨⟨_,256,by rw[XN];rfl,by rw[XN];exact Nat.le_refl _,SM.of_block b⟩,rfl⟩
theorem wHn(M:Mem):
  SpecL prog 23 #[] M [] λu M' z=>(∃l j,u=.agg #[l,j]/\LS M' l (replicate 256 Z128)/\WS M' j [])/\z=[]:=by
 refine sB func23 ntmps23 ?_;intro W;refine ga λm=>?_;refine lh (D1 rfl rfl rfl rfl (by omega) (by rfl)) ?_;rintro _ _ _ ⟨e,rfl,rfl,rfl⟩;rw[wFf];refine ga λi=>?_;refine CC (α:=Nat×Mem×List Value) (λx=>[(0,pB m),(1,pB i),(6,.slice (some ⟨e,0,none⟩) 256 256),(7,.int .i64 256),(8,.int .i64 (x.1:Int))]) (λx=>x.2.1) (λx=>[(i,cE [.slice (some ⟨e,0,none⟩) 256 256,.slice none 0 0] 25),(e,cE (Sh x.2.2) 26),(m,cE [.slice none 0 0,.slice none 0 0] 25)]) (λx=>x.1<=256/\x.2.2.length=x.1/\∀v∈x.2.2,BS x.2.1 v Z128) (λx=>256-x.1) (0,M,[]) ⟨Nat.zero_le _,rfl,λ_ h=>by cases h⟩ ?_;rintro⟨k,B,vals⟩ ⟨s,a,b⟩;try dsimp only at s a b⊢
 refine gj (λw=>?_) λw=>?_
 ·refine gh ?_;refine D7 [0,1,2,103,4,105] [(i,cE [.slice (some ⟨e,0,none⟩) 256 256,.slice none 0 0] 25)] ?_;refine gh ?_;refine dh rfl (D1 rfl rfl rfl rfl (by omega) (by rfl)) ?_;rintro _ _ _ ⟨f,rfl,rfl,rfl⟩;refine⟨MLe.refl _,by simp,?_⟩;rw[z128];refine gh ?_;refine DF rfl rfl (Ns rfl rfl rfl rfl rfl rfl (by simp[Value.oneCell']) (by rw[wMg (by omega)];show _+1<=_;omega)) ?_;rintro _ _ _ ⟨rfl,rfl⟩;refine⟨_,_,MLe.refl _,MLe.refl _,λ_ h=>h,by simp,?_⟩;rw[wFg (by omega) (by omega)];refine gh ?_;refine AF f (by simp) ?_;intro n d g;refine BD (k+1,n,vals++[.slice (some ⟨f,0,none⟩) (128:Int).toNat (128:Int).toNat]) ⟨by show k+1<=256;omega,by show (vals++[_]).length=k+1;rw[length_append,a];rfl,?_⟩;intro v c;rcases List.mem_append.1 c with c|c
  ·exact (b v c).mono d
  rw[List.mem_singleton.1 c];exact⟨_,128,by rw[XO];rfl,by rw[XO];exact Nat.le_refl _,SM.of_block g⟩
 refine gh ?_;obtain rfl:k=256:=by omega
 refine AF e (by simp) ?_;intro n d y;refine gr ?_;refine⟨⟨_,_,rfl,⟨_,256,vals.map (λv=>(Z128,v)),by rw[length_replicate],by rw[length_replicate];exact Nat.le_refl _,?_,?_,?_⟩,⟨none,0,[],rfl,Nat.le_refl _,SM.nil,rfl,λ_ h=>by cases h⟩⟩,rfl⟩
 ·have:=SM.of_block y;unfold Sh at this;rw[a,Nat.sub_self,List.replicate_zero,append_nil]at this;rw[map_map,show ((λp:List By×Value=>p.2)∘λv=>(Z128,v))=id from rfl,List.map_id];exact this
 ·rw [map_map,show ((λp:List By×Value=>p.1)∘λv=>(Z128,v))=λ_=>Z128 from rfl,List.map_const',a]
 intro p o;obtain⟨v,c,rfl⟩:=List.mem_map.1 o;exact(b v c).mono d
def st0:Sto:=⟨replicate 256 Z128,[],Z256,Z256⟩
theorem wEc(M:Mem):
  SpecL prog 15 #[] M [] λu M' l=>ST M' u st0/\l=[]:=by
 refine sB func15 ntmps15 ?_;intro W;refine ga λE=>?_;refine gc (wHn M) ?_;rintro _ k h ⟨B,m,rfl,f,e⟩;obtain⟨D,C,i,rfl,_⟩:=id f;obtain⟨o,n,g,rfl,_⟩:=id e;refine gc (TC k) ?_;rintro _ j b c;obtain⟨w,s,rfl,_⟩:=id c;refine gc (TC j) ?_;rintro _ F a d;obtain⟨z,y,rfl,_⟩:=id d;refine gr ?_;exact⟨⟨_,_,_,_,rfl,f.mono (b.trans a),e.mono (b.trans a),c.mono a,d⟩,rfl⟩
variable{F:Fr}{L:Lc}{M0:Mem}{N:Fs}{P:Program}{Q:Exit->Act->World->Prop}{W:World}{X:List Nat}{bb:Nat}{ops:Array Oper}{rest:List Oper}{s:Sto}
theorem LV{M:Mem}{L2 I:Lc}(Y:BOwn M bb I s)[k:Pick I L L2](E:∀p∈I,p.1∉X)
  (h:∀M' B l J lv,MLe M M'->M' bb=some (cE [B,l,J,lv] Ew)->LS M' B s.blocks->WS M' l s.waits->BS M' J s.now->BS M' lv s.last->JL P ops N Q rest F ⟨W,X,M0⟩ M' L2):JL P ops N Q rest F ⟨W,X,M0⟩ M L:=by
 obtain⟨B,l,O,K,lv,Rw,S,rfl,g2,g3,g4,n,u,o,j⟩:=Y;refine Uh (M':=M) (L':=(bb,cE [B,l,.slice O s.now.length K,lv] Ew)::(Rw++(S++L2))) (λw T=>by have:=T.perm k.perm;rwa[List.cons_append,List.append_assoc]at this) ?_;have z:∀(m:Mem)(i:Value),MLe M m->i=l->WS m i s.waits->JL P ops N Q rest F ⟨W,X,M0⟩ m ((bb,cE [B,l,.slice O s.now.length K,lv] Ew)::(S++L2)):=λm i c e V=>by
  subst e;refine Hn g4 (λp k=>E p (by simp[k])) ?_;intro M2 a2 c2 g e2 G C;refine Az bb (E _ (List.mem_cons_self (a:=(bb,_)))) ?_;intro M3 d R;rw[e2]at R;exact h M3 _ _ _ _ (c.trans (g.trans d)) R (g2.mono (c.trans (g.trans d))) (V.mono (g.trans d)) ⟨_,_,rfl,G,C.mono d⟩ (g3.mono (c.trans (g.trans d)))
 rcases j with j|⟨rfl,U,ba,rfl,f,y⟩
 ·refine Hn j (λp k=>E p (by simp[k])) ?_;intro m a1 c1 c e1 H D;exact z m _ c e1.symm ⟨a1,c1,n,rfl,H,D,u,λp k=>(o p k).mono c⟩
 refine z M _ (MLe.refl _) rfl ⟨_,_,n,rfl,Nat.le_refl _,?_,u,o⟩;rcases f with Z|f
 ·exact .inl Z
 obtain⟨b,of,sp⟩:=ba;simp only at f;subst f;exact .inr ⟨b,of,rfl,y⟩
variable{k:Nat}{xs:List By}
theorem AK{j:Nat}{v:By}(h:j≠k):(xs.set k v).getD j 0=xs.getD j 0:=by
 grind
theorem wDn{v:By}(h:8<=k):(xs.set k v).take 8=xs.take 8:=by
 rw[List.take_set];rw[List.set_eq_of_length_le];rw[List.length_take];omega
theorem G1{v:By}(h:8<=k)(a:HA xs):HA (xs.set k v):=by
 grind[HA,wDn]
theorem Mu(s:Sto):∀(f k:Nat),k<=Jm s f k
 |0,k=>Nat.le_refl _
 |f+1,k=>by
  rw[Jm];split
  ·omega
  exact Nat.le_trans (Nat.le_succ k) (Mu s f (k+1))
theorem SK{xs:List It}(h:HA s.now)(a:∀x∈xs,x.ref=0\/8<=x.ref/\x.ref<256):HA (Am s xs).now:=by
 unfold Am;induction xs generalizing s with
 |nil=>exact h
 |cons x xs b=>
  rw[List.foldl_cons]
  refine b ?_ (λy c=>a y (by simp[c]))
  have:=a x (by simp)
  split
  ·exact h
  exact G1 (by omega) h
variable{lv:Int}
theorem Jc{xs:List It}(d:Av s)(e:CD lv xs=true)(m:BH (Am s xs)<256)(l:s.waits.length<4096):Av (EM s lv xs):=by
 obtain⟨⟨j,y,i,h⟩,o,n⟩:=d;obtain⟨z,g,u,f⟩:=CH s xs;have a:=NdOk.of e;refine⟨⟨?_,?_,?_,?_⟩,?_,?_⟩
 ·show (Am s xs).blocks.length=256;rw[f];exact j
 ·show ((Am s xs).waits++[_]).length<=4096;rw[g,length_append];show _+1<=_;omega
 ·show ∀b∈(Am s xs).blocks,_;rw[f];exact i
 ·show ∀w∈(Am s xs).waits++[_],_;rw[g];intro w c;rcases List.mem_append.1 c with c|c
  ·exact h w c
  rw[List.mem_singleton.1 c];refine⟨by omega,by omega,JW ?_⟩;have:=GQ (λx k=>(B5 a.ok x k).1);have:=a.len;grind[Dd]
 ·exact G1 (Mu _ _ _) (SK o a.ref)
 show HA (Am s xs).last;rw[u];exact n
theorem ZJ(s:Sto)(w G n:Value)(e:Option Addr)(m:Nat)(lv:Int)(xs:List It)(a:Option Addr)(c:Nat)(ps:List (It×Value))(M:Mem)(h1:LS M w s.blocks)(b:List (Wt×Value))(B:s.waits.length<=m)(y:SM M e (b.flatMap AZ))(g:b.map (·.1)=s.waits)(C:∀p∈b,BS M p.2 p.1.2)(h3:BS M G s.now)(h4:BS M n s.last)(Z:xs.length<=c)(hs:SM M a (ps.flatMap Ae))(o:ps.map (·.1)=xs)(hb:∀p∈ps,BS M p.2 p.1.val)(P:∀x∈xs,0<=x.key.kind/\x.key.kind<256)(h:Av s)(j:CD lv xs=true)(L:wYh s xs)(F:BH (Am s xs)<256)(z:s.waits.length<4096):
  SpecL prog 22 #[.agg #[w,.slice e s.waits.length m,G,n],.agg #[.int .i64 lv,.slice a xs.length c]] M [] λu M' L'=>(∃v,u=.tuple #[v,.int .i64 (BH (Am s xs)),.int .i64 0]/\ST M' v (EM s lv xs))/\L'=[]:=by
 have R:WS M (.slice e s.waits.length m) s.waits:=⟨e,m,b,rfl,B,y,g,C⟩;have S:ST M (.agg #[w,.slice e s.waits.length m,G,n]) s:=⟨_,_,_,_,rfl,h1,R,h3,h4⟩;have N:NS M (.slice a xs.length c) xs:=⟨a,c,ps,rfl,Z,hs,o,hb⟩;have al:DJ s=0:=if_pos h;have ah:C0 lv xs=0:=if_pos j;obtain⟨ak,⟨k,_⟩,⟨l,_⟩⟩:=id h;refine sB func22 ntmps22 ?_;intro W;refine W4 λb2 b3 b4=>?_;refine gQ (CK s _ M S) ?_;refine gt ?_;refine gQ (Gd lv xs _ M N) ?_;refine gt ?_;refine gC (Nf s w G n e m M B (by omega) h3 (by omega)) ?_;rintro _ M1 _ d ⟨bb,Rn,Y,X,rfl,rfl,D⟩;have U:BOwn M1 bb ((bb,cE [w,.slice e s.waits.length s.waits.length,.slice Y s.now.length X,n] Ew)::Rn) s:=by
  refine⟨w,_,Y,X,n,[],Rn,rfl,h1.mono d,h4.mono d,D,b,g,λp o=>(C p o).mono d,?_⟩;have Q:(b.flatMap AZ).length=s.waits.length*2:=by rw[Aj AZ 2 BX,<-g,length_map]
  rcases y with h0|⟨wb,wo,rfl,K⟩
  ·have hz:s.waits.length=0:=by grind
   rw[h0,hz];cases e with
   |none=>grind[Own.nil]
   |some ba=>grind
  exact .inr ⟨rfl,Q,_,rfl,.inr rfl,λi u hu=>(K i u hu).mono d⟩
 refine gC (ZW s lv xs a c ps M1 Z (hs.mono d) o (λp o=>(hb p o).mono d) P bb _ U j k l L F z) ?_;rintro _ M2 R2 ap ⟨rfl,T⟩;refine gt ?_;have O:=Jc h j F z;obtain⟨E,⟨ai,_⟩,⟨aj,_⟩⟩:=id O;refine LV T (by simp) ?_;intro M3 J H I Gs ao e3 k1 k2 k3 k4;refine gc (D5 (EM s lv xs) bb J H I Gs M3 e3 k1 k2 k3 k4 E (by omega) (by omega)) ?_;rintro _ M4 am f;obtain⟨q1,q2,q3,q4,rfl,f1,f2,f3,f4⟩:=f.ex;obtain⟨au,aq,aa,rfl,_⟩:=id f1;obtain⟨ac,ab,V,rfl,_⟩:=id f2;obtain⟨ae,ad,rfl,_⟩:=id f3;obtain⟨ag,af,rfl,_⟩:=id f4;refine gr ?_;exact⟨⟨_,rfl,f⟩,rfl⟩
def SL(s:Sto):List It->Int
 |[]=>0
 |x::xs=>if x.ref=0 then SL s xs else if Bl s x.ref.toNat=0 then SL (Bb s x.ref.toNat) xs else Bl s x.ref.toNat
variable{k:Nat}{s:Sto}{xs:List It}
theorem Yg(h:k<xs.length):SL (Am s (xs.take k)) (xs.drop k)=if xs[k].ref=0 then SL (Am s (xs.take (k+1))) (xs.drop (k+1))else if Bl (Am s (xs.take k)) xs[k].ref.toNat=0 then SL (Am s (xs.take (k+1))) (xs.drop (k+1))else Bl (Am s (xs.take k)) xs[k].ref.toNat:=by
 rw[List.drop_eq_getElem_cons h,SL,ES h];grind
def KS(s:Sto)(lv:Int)(xs:List It):Int:=if CD lv xs=true then (if SL s xs=0 then (if BH (Am s xs)=256\/s.waits.length=4096 then 9 else 0)else SL s xs)else 8
theorem wBw(s:Sto):∀(f k:Nat),Jm s f k<=k+f
 |0,k=>Nat.le_refl _
 |f+1,k=>by
  rw[Jm];split
  ·omega
  have:=wBw s f (k+1);omega
variable{M':Mem}{lv:Int}{u:Value}
theorem wZc(h:if CD lv xs then ∃s,u=.tuple #[s,.int .i64 0]/\BS M' s (Ks lv xs)else u=.tuple #[.slice none 0 0,.int .i64 8]):
  ∃a n c e,u=.tuple #[.slice a n c,.int .i64 e]/\((e=0/\CD lv xs=true/\n=(Ks lv xs).length/\BS M' (.slice a (Ks lv xs).length c) (Ks lv xs))\/(e=8/\¬CD lv xs=true)):=by
 split at h
 ·rename_i b;obtain⟨s,rfl,a,c,rfl,f,d⟩:=h;exact⟨a,_,c,0,rfl,.inl ⟨rfl,b,rfl,a,c,rfl,f,d⟩⟩
 grind
variable{M:Mem}{a:Option Addr}{n:Nat}
theorem BS.cap_le{c:Nat}{xs:List By}(h:BS M (.slice a n c) xs):xs.length<=c:=by
 obtain⟨_,_,e,b,_⟩:=h;grind
theorem wUm(s:Sto):BH s<=256:=wBw s 248 8
theorem wDw(h:¬Bl s k=0):(s.now.getD k 0=0/\Bl s k=6)\/(s.now.getD k 0=255/\Bl s k=70):=by
 grind[Bl]
theorem wDv(s:Sto)(k l:Nat)(hk:k<s.now.length)(w:¬Bl s k=0)(B n lv:Value)(j:Option Addr)(i:Nat)(C m:Lc)(M:Mem)(a:Own (.slice j s.now.length i) m 5 1 s.now.length (Aa s.now)):
  SpecL prog 91 #[pB l,.int .i64 k] M ((l,cE [B,n,.slice j s.now.length i,lv] Ew)::(C++m)) λu M' E=>u=.int .i64 (Bl s k):=by
 have d:(Aa s.now)[k]? =some (.int .u8 ((s.now.getD k 0).toNat:Int)):=Ca hk;obtain⟨D,h,g,z,y,_⟩:=a.open (by omega);cases z;cases y;have c:=wDw w;have o:=(s.now.getD k 0).toNat_lt;refine sB func91 ntmps91 ?_;intro W;refine gh ?_;refine lq (Au rfl rfl rfl rfl (by rw[Nat.mul_one,Nat.zero_add];exact a.cj (by simp) d)) ?_;refine gj (λf=>?_) λf=>?_
 ·refine gr ?_;rcases c with⟨_,b⟩|⟨b,_⟩
  ·grind
  simp_all
 refine gj (λe=>?_) λe=>?_
 ·refine gr ?_;rcases c with⟨b,_⟩|⟨_,b⟩
  ·simp_all
  grind
 exfalso;rcases c with⟨b,_⟩|⟨b,_⟩
 ·simp_all
 simp_all
theorem SI(s:Sto)(k a:Nat)(hk:k<s.now.length)(M:Mem)(b:Lc)(h:BOwn M a b s):SpecL prog 91 #[pB a,.int .i64 k] M b λu M' c=>u=.int .i64 (Bl s k)/\(Bl s k=0->BOwn M' a c (Bb s k)):=by
 by_cases g:Bl s k=0
 ·grind [P2]
 obtain⟨n,d,f,e,lv,o,w,rfl,m,l,j,i⟩:=h;grind[wDv]
theorem NC(s:Sto)(lv:Int)(xs:List It)(a:Option Addr)(c:Nat)(ps:List (It×Value))(M:Mem)(hc:xs.length<=c)(hs:SM M a (ps.flatMap Ae))(f:ps.map (·.1)=xs)(hb:∀p∈ps,BS M p.2 p.1.val)(ax:∀x∈xs,0<=x.key.kind/\x.key.kind<256)(z:Nat)(Lb:Lc)(a6:BOwn M z Lb s)(ap:s.now.length=256)(av:s.last.length=256)(aC:s.waits.length<=4096):
  SpecL prog 48 #[pB z,.agg #[.int .i64 lv,.slice a xs.length c]] M Lb λu M' L'=>∃N e,u=.tuple #[.int .i64 N,.int .i64 e]/\e=KS s lv xs/\(e=0->N=(BH (Am s xs):Int)/\BOwn M' z L' (EM s lv xs)):=by
 have aP:NS M (.slice a xs.length c) xs:=⟨a,c,ps,rfl,hc,hs,f,hb⟩;refine sB func48 ntmps48 ?_;intro W;refine ga λb3=>?_;refine gc (NW lv xs a c ps M hc hs f hb ax) ?_;rintro _ M1 C ak;obtain⟨o,aH,n,e6,rfl,I⟩:=wZc ak;simp only[nil_append];refine gj (λaA=>?_) λaA=>?_
 ·refine gr ?_;grind[KS]
 refine gh ?_;obtain⟨a1,aj,ao,G⟩|⟨a1,y⟩:=I;rotate_left
 ·omega
 subst ao;have aD:=G.cap_le;have y:=NdOk.of aj;have aE:=y.len;have aT:(Ks lv xs).length=128:=by
  refine JW ?_;have:=GQ (λx Z=>(B5 y.ok x Z).1);grind[Dd]
 refine CC (α:=Nat×Mem×Lc) (λx=>[(0,pB z),(3,pB b3),(6,.slice o (Ks lv xs).length n),(19,.slice a xs.length c),(20,.int .i64 xs.length),(21,.int .i64 x.1)]) (λx=>x.2.1) (λx=>(b3,cE [.int .i64 lv,.slice a xs.length c] 81)::x.2.2) (λx=>x.1<=xs.length/\MLe M1 x.2.1/\BOwn x.2.1 z x.2.2 (Am s (xs.take x.1))/\SL s xs=SL (Am s (xs.take x.1)) (xs.drop x.1)) (λx=>xs.length-x.1) (0,M1,Lb) ⟨Nat.zero_le _,MLe.refl _,a6.mono C,rfl⟩ ?_;rintro⟨k,S,Lk⟩ ⟨hk,d,E,Q⟩;try dsimp only at hk d E Q⊢
 refine gj (λa9=>?_) λa9=>?_
 ·refine gh ?_;have b:k<xs.length:=by omega
  have ae:=hs.mono (C.trans d);have a3:=λp f=>(hb p f).mono (C.trans d);obtain⟨sb,so,L,Z⟩:=ae.open (by intro e;have:=congrArg length e;rw[Aj Ae 5 Ag,length_nil]at this;have h2:=congrArg length f;rw[length_map]at h2;omega);subst L;obtain⟨va,vc,a2,aK,aJ⟩:=Aw Z f a3 b;have aI:=y.ref xs[k] (getElem_mem b);have J:=(CH s (xs.take k)).1;refine gh ?_;refine lq (A1 (cs:=E1 xs[k] va vc) rfl rfl rfl rfl rfl (λi v hv=>(a2 i v hv).cj _)) ?_;refine gA λb8=>?_;refine gj (λl=>?_) λl=>?_
  ·refine gh ?_;refine BD (k+1,S,Lk) ⟨by show k+1<=xs.length;omega,d,by show BOwn _ _ _ (Am s (xs.take (k+1)));rw[ES b,if_pos l];exact E,by show SL s xs=SL (Am s (xs.take (k+1))) (xs.drop (k+1));rw[Q,Yg b,if_pos l]⟩
  refine gh ?_;have aw:((xs[k].ref.toNat:Nat):Int)=xs[k].ref:=Int.toNat_of_nonneg (by omega);refine lh (BV rfl rfl rfl rfl rfl (by kernel_rfl) (by have:=SI (Am s (xs.take k)) xs[k].ref.toNat z (by omega) S Lk E;rwa[aw]at this)) ?_;rintro _ Mn _ ⟨a4,R',rfl,⟨rfl,a5⟩⟩;refine gj (λK=>?_) λK=>?_
  ·refine gr ?_;grind[Yg,KS]
  refine gh ?_;have B:=Classical.not_not.1 K;refine BD (k+1,Mn,R') ⟨by show k+1<=xs.length;omega,d.trans a4,by show BOwn _ _ _ (Am s (xs.take (k+1)));rw[ES b,if_neg l];exact a5 B,by show SL s xs=SL (Am s (xs.take (k+1))) (xs.drop (k+1));rw[Q,Yg b,if_neg l,if_pos B]⟩ (hs:=λw h=>(h.perm List.perm_append_comm).fewer (by simp))
 refine gh ?_;obtain rfl:k=xs.length:=by omega
 rw[List.take_length]at E;obtain⟨t,ht⟩:∃t,t=Am s xs:=⟨_,rfl⟩;obtain⟨ai,ah,ag,af⟩:=CH s xs;rw[<-ht]at E ai ah ag af;have aU:SL s xs=0:=by rw[Q,List.drop_length];rfl
 obtain⟨bv,wv,na,Y,lw,Rw,Rn,rfl,g2,g3,g4,g5⟩:=E;obtain⟨wa,wc,rfl⟩:=g5.form;have aM:t.now.length=256:=by omega
 have aN:t.last.length=256:=by grind
 obtain⟨X,aB,F,L,e1,_⟩:=g4.open (by omega);cases L;cases e1;obtain⟨la,lc,rfl,aQ,au⟩:=id g3;obtain⟨lb,lo,L,aq⟩:=au.open (by intro e;have:=congrArg length e;rw[Ad,length_nil]at this;omega);subst L;refine CC (α:=Nat) (λj=>[(0,pB z),(4,.int .i64 (j:Int)),(6,.slice o (Ks lv xs).length n)]) (λ_=>S) (λ_=>(b3,cE [.int .i64 lv,.slice a xs.length c] 81)::(z,cE [bv,.slice wa t.waits.length wc,.slice (some ⟨X,0,none⟩) t.now.length Y,.slice (some ⟨lb,lo,none⟩) t.last.length lc] Ew)::(Rw++[(X,.cells F 5 (0,0))])) (λj=>j<=256/\Jm t (256-j) j=BH t) (λj=>256-j) 8 ⟨by omega,rfl⟩ ?_;rintro j ⟨hj,hI⟩;try dsimp only at hj hI⊢
 have H:ND .u8 ((t.now.getD j 0).toNat:Int) ((t.last.getD j 0).toNat:Int)=((t.now.getD j 0 ||| t.last.getD j 0).toNat:Int):=ZU _ _;refine gh ?_;refine QQ [0,1,2,3,4,5,6,7,8,9,10,11,12,13,14,15,16,17,18,19,20,21] ?_;refine gj (λa8=>?_) λa8=>?_
 ·refine gh ?_;have ay:(Aa t.now)[j]? =some (.int .u8 ((t.now.getD j 0).toNat:Int)):=Ca (by omega);have az:(Aa t.last)[j]? =some (.int .u8 ((t.last.getD j 0).toNat:Int)):=Ca (by omega);refine dq rfl (Au rfl rfl rfl rfl (by rw[Nat.mul_one,Nat.zero_add];exact g4.cj (by simp) ay)) ?_;refine gh ?_;refine dq rfl (Au rfl rfl rfl rfl ((aq _ _ (by rw[Nat.mul_one];exact az)).cj _)) ?_;refine dq rfl (EW rfl rfl rfl rfl rfl) ?_;refine gj (λD=>?_) λD=>?_
  ·refine gh ?_;have am:¬Jk t j:=λhf=>D (by rw[H,(LH _ _).2 hf];rfl);refine BD (j+1) ⟨by omega,by rw[<-wBv (by omega) am];exact hI⟩
  refine gt ?_;refine gj (λa7=>?_) λa7=>?_
  ·refine gr ?_;grind[KS]
  refine gh ?_;refine lh (Ab (cs:=[_,_]) rfl rfl rfl (by rfl) (by rfl) (by rfl)) ?_;rintro _ _ _ ⟨aV,rfl,rfl,rfl⟩;have aL:t.waits.length<4096:=by grind
  obtain⟨T,ad,ac,ab⟩:=id g5;have aS:Jk t j:=(LH _ _).1 (UInt8.toNat.inj (by have:=Classical.not_not.1 D;rw[H]at this;simpa using this));have a0:BH t=j:=by grind[wBx]
  refine lh (WV (R:=Rw) (m:=1) (news:=[.int .i64 (j:Int),.slice o (Ks lv xs).length n]) rfl rfl rfl rfl ab rfl (λi v hv=>CJ.loc (by simpa using hv)) rfl (by rfl) (by simp[Value.oneCell']) (by omega) (by omega) (by omega)) ?_;rintro _ _ _ ⟨rfl,O,rfl,g⟩;obtain⟨V,U,rfl⟩:=g.form;refine gh ?_;refine DE rfl (D0 (u:=.int .u8 1) rfl rfl rfl rfl rfl rfl g4 rfl (by omega)) ?_;rintro _ _ _ ⟨rfl,P,rfl,al⟩;refine gh ?_;refine AM (M':=S) (L':=(z,cE [bv,.slice V (t.waits.length+1) U,.slice (some ⟨X,0,none⟩) t.now.length Y,.slice (some ⟨lb,lo,none⟩) t.last.length lc] Ew)::(O++P)) (λw h=>?_) ?_
  ·have h2:=h.perm wWw;exact h2.fewer (.cons _ (.cons _ (.refl _)))
  refine wSg rfl rfl rfl ?_;have hT:EM s lv xs=MM t j (Ks lv xs):=by grind[EM]
  refine⟨_,_,rfl,?_,λ_=>⟨by rw[<-ht,a0],?_⟩⟩
  ·grind [KS]
  rw[hT];have J:(MM t j (Ks lv xs)).now.length=t.now.length:=by grind[MM]
  have aa:(MM t j (Ks lv xs)).waits.length=t.waits.length+1:=by grind[MM]
  refine⟨bv,_,_,Y,_,O,P,by rw[J],g2,g3,?_,T++[(((j:Int),Ks lv xs),.slice o (Ks lv xs).length n)],?_,?_,.inl ?_⟩
  ·simp_all [Aa,MM,Ks]
  ·rw [List.map_append,ad];rfl
  ·intro p f;rcases List.mem_append.1 f with f|f
   ·exact ac p f
   rw[List.mem_singleton.1 f];exact G.mono d
  rw[aa,flatMap_append];exact g
 refine gu ?_;obtain rfl:j=256:=by omega
 refine⟨_,_,rfl,?_,λh=>by cases h⟩;have aF:BH t=256:=hI.symm;grind[KS]
def Cj(s:Sto)(k:Nat):Int:=if s.now.getD k 0=0 then 6 else 0
def AO(s:Sto)(k:Nat):Sto:={ s with now:=s.now.set k (s.now.getD k 0-1) }
theorem QA(s:Sto)(k:Nat):(AO s k).now.length=s.now.length:=by grind[AO]
variable{b:By}
theorem UA(h:b≠0):((b-1).toNat:Int)=(b.toNat:Int)-1/\1<=(b.toNat:Int):=by
 have d:=b.toNat_lt;have c:b.toNat≠0:=λe=>h (UInt8.toNat.inj e);have a:(1:By)<=b:=by grind
 rw[UInt8.toNat_sub_of_le _ _ a];grind
theorem wGa(s:Sto)(k g:Nat)(hk:k<s.now.length)(y:s.now.getD k 0=0)(n i lv:Value)(f:Option Addr)(e:Nat)(o h:Lc)(M:Mem)(a:Own (.slice f s.now.length e) h 5 1 s.now.length (Aa s.now)):
  SpecL prog 230 #[pB g,.int .i64 k] M ((g,cE [n,i,.slice f s.now.length e,lv] Ew)::(o++h)) λu M' B=>u=.int .i64 6:=by
 have b:(Aa s.now)[k]? =some (.int .u8 ((s.now.getD k 0).toNat:Int)):=Ca hk;obtain⟨w,d,c,m,l,_⟩:=a.open (by omega);cases m;cases l;have j:=(s.now.getD k 0).toNat_lt;have z:((s.now.getD k 0).toNat:Int)=0:=by simp_all
 refine sB func230 ntmps230 ?_;intro W;refine gh ?_;refine lq (Au rfl rfl rfl rfl (by rw[Nat.mul_one,Nat.zero_add];exact a.cj (by simp) b)) ?_;refine gu ?_;rfl
theorem YN(s:Sto)(k e:Nat)(hk:k<s.now.length)(D:¬s.now.getD k 0=0)(l i lv:Value)(f:Option Addr)(c:Nat)(g o:Lc)(M:Mem)(a:Own (.slice f s.now.length c) o 5 1 s.now.length (Aa s.now)):
  SpecL prog 230 #[pB e,.int .i64 k] M ((e,cE [l,i,.slice f s.now.length c,lv] Ew)::(g++o)) λu M' L'=>u=.int .i64 0/\M'=M/\∃b,L'=(e,cE [l,i,.slice f s.now.length c,lv] Ew)::(g++b)/\Own (.slice f s.now.length c) b 5 1 s.now.length (Aa (AO s k).now):=by
 have d:(Aa s.now)[k]? =some (.int .u8 ((s.now.getD k 0).toNat:Int)):=Ca hk;obtain⟨y,n,m,F,E,_⟩:=a.open (by omega);cases F;cases E;have z:=(s.now.getD k 0).toNat_lt;obtain⟨C,B⟩:=UA D;refine sB func230 ntmps230 ?_;intro W;refine gh ?_;refine lq (Au rfl rfl rfl rfl (by rw[Nat.mul_one,Nat.zero_add];exact a.cj (by simp) d)) ?_;refine gt ?_;refine lq (Au rfl rfl rfl rfl (by rw[Nat.mul_one,Nat.zero_add];exact a.cj (by simp) d)) ?_;refine lq (wTr rfl rfl rfl rfl rfl (by rw[IntKind.wrap_u8];omega)) ?_;refine gh ?_;refine DE rfl (D0 rfl rfl rfl rfl rfl rfl a rfl (by omega)) ?_;rintro _ _ _ ⟨rfl,b,rfl,j⟩;refine gh ?_;refine AM (L':=(e,cE [l,i,.slice (some ⟨y,0,none⟩) s.now.length c,lv] Ew)::(g++b)) (λw h=>h.perm ?_) ?_
 ·simpa using (List.perm_append_comm (l₁:=b) (l₂:=(e,_)::g))
 refine FX rfl rfl ?_;simp_all [Aa,AO]
theorem GN(s:Sto)(k a:Nat)(hk:k<s.now.length)(M:Mem)(l:Lc)(h:BOwn M a l s):SpecL prog 230 #[pB a,.int .i64 k] M l λu M' m=>u=.int .i64 (Cj s k)/\(Cj s k=0->BOwn M' a m (AO s k)):=by
 obtain⟨i,c,e,d,lv,j,F,rfl,y,w,o,n⟩:=h;by_cases g:s.now.getD k 0=0
 ·simp_all [Cj,wGa]
 have E:Cj s k=0:=if_neg g;refine(YN s k a hk g i c lv e d j F M o).mono λu M' m ⟨D,C,b,B,z⟩=>?_;subst C;have f:=QA s k;exact⟨by rw[E];exact D,λ_=>⟨i,c,e,d,lv,j,b,by rw[f];exact B,y,w,by rw[f];exact z,n⟩⟩
end Go.Proofs.YtjheijhahehnmaaGreatDoor
