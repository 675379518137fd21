/- Nodes: what is written is read again (plain laws). No statement of the seat is proved here. -/
import Derived.Test.YtdahhoicackcaaaGreatZHn
import Derived.Test.YtdahhoicackcaaaGreatZIns
import Derived.Test.YtdahhoicackcaaaGreatZRfind
import Derived.Test.YtdahhoicackcaaaGreatZSp
namespace Go.Proofs.YtdahhoicackcaaaGreat
open Go.Proofs.Tryz
open List (nil_append append_assoc length_append length_take length_drop length length_nil getElem_mem length_map replicate)
set_option linter.unusedSimpArgs false
set_option linter.unusedVariables false
set_option linter.unusedSectionVars false
open Go.RowKit
set_option maxRecDepth 8000
set_option maxHeartbeats 40000000
theorem wCc(A B V T:List Value)(a b v:Nat)(e:A.length=a)(d:B.length=b)(c:V.length=v)(hs:v<=T.length):
  ((((A++T).take (a+v)++B++(A++T).drop (a+v+B.length)).take a)++V++(((A++T).take (a+v)++B++(A++T).drop (a+v+B.length)).drop (a+V.length)))=A++V++B++(T.drop (v+b)):=by
 subst e d c
 have g:(A++T).take (A.length+V.length)=A++T.take V.length:=by grind
 have f:(A++T).drop (A.length+V.length+B.length)=T.drop (V.length+B.length):=by
  rw[List.drop_append,List.drop_eq_nil_of_le (by omega),nil_append];congr 1;omega
 grind
theorem wHp(A V Y T:List Value)(a:Nat)(c:A.length=a)(b:V.length=Y.length):(A++(Y++T)).take a++V++(A++(Y++T)).drop (a+V.length)=A++(V++T):=by
 grind
theorem wAn(A V B T:List Value)(a:Nat)(b:A.length+V.length=a):(A++(V++(B++T))).take a++B++(A++(V++(B++T))).drop (a+B.length)=A++V++B++T:=by
 subst b
 rw[<-append_assoc,show A.length+V.length=(A++V).length by rw[length_append],List.take_left,<-append_assoc (A++V) B T,show (A++V).length+B.length=(A++V++B).length by simp only[length_append],List.drop_left]
variable{A:List Value}{L:Lc}{M:Mem}{e:TypeId}{g:Nat}
theorem J6{off:Nat}{Y B a:List Value}(c:(g,cE (A++(Y++(B++a))) e)∈L)(b:off=A.length+Y.length):SJ M L (some ⟨g,off,none⟩) B:=
 UD (A:=A++Y) (by rw[append_assoc];exact c) (by rw[length_append];exact b)
theorem wGv(a:List Ir)(y:Ir)(p2 vs:List Ir)(g c:Nat)(r:List Value)(o F:Nat)(D:List Value)(E:TypeId)(M:Mem)(b:M o=some (cE (vs.flatMap Ac++D) E))(d:∀x∈vs,x.2.oneCell'=true)(e:∀x∈p2,x.2.oneCell'=true)(J:0<vs.length)(L:0<p2.length)(K:a.length+1+p2.length<=c)(j:c<=maxLen)(H:r.length=(c-(a.length+1+p2.length))*5)(B:a.length+1+p2.length+vs.length<=100000):
  SpecL prog 111 #[.slice (some ⟨g,0,none⟩) (a.length+1+p2.length) c,.int .i64 a.length,.int .i64 ((a.length+1:Nat):Int),.slice (some ⟨o,0,none⟩) vs.length F] M [(g,cE (a.flatMap Ac++(Ac y++(p2.flatMap Ac++r))) IT)] λu N I=>Own u I IT 5 (a.length+vs.length+p2.length) ((a++vs++p2).flatMap Ac):=by
 refine sB func111 ntmps111 ?_;intro W
 refine gh ?_
 refine lq (C6 rfl rfl rfl (.no _) (.of (v:=a.length+1) rfl (by omega) (by omega)) (.of (v:=a.length) rfl (by omega) (by omega)) (by omega) (by simp)) ?_
 refine gt ?_
 refine LL [0,1,2,3,4,5,6,7,8,9,10,11,12] [] ?_
 refine gh ?_
 refine dq rfl (Bc (C6 rfl rfl rfl (.no _) (.of (v:=a.length) rfl (by omega) (by omega)) (.no _) (by omega) (by simp)) (v':=.slice (some ⟨g,0,none⟩) (a.length) (c)) (by rw[AZ];rfl)) ?_
 refine gh ?_
 refine dq rfl (Bc (C6 rfl rfl rfl (.no _) (.no _) (.of (v:=a.length+1) rfl (by omega) (by omega)) (by omega) (by simp)) (v':=.slice (some ⟨g,a.length*5+5,none⟩) (a.length+1+p2.length-(a.length+1)) (c-(a.length+1))) (by rw[AB (by omega)];exact congrArg (λk=>Value.slice (some ⟨g,k,none⟩) _ _) (by omega))) ?_
 refine gh ?_
 refine lq (QZ rfl rfl rfl) ?_
 refine gj (λn=>?_) λn=>?_
 ·refine gh ?_
  refine lq (Bc (C6 rfl rfl rfl (.no _) (.of (v:=a.length) rfl (by omega) (by omega)) (.no _) (by omega) (by simp)) (v':=.slice (some ⟨g,0,none⟩) (a.length) (c)) (by rw[AZ];rfl)) ?_
  refine gh ?_
  refine lh (Qm (m:=vs.length+p2.length) (xs:=a.flatMap Ac) rfl rfl rfl rfl (by omega) (fl a) (wEk (List.Mem.head _)) rfl (by omega) (by omega) (by omega) (by omega)) ?_;rintro _ _ _ ⟨rfl,f,C,zs,rfl,rfl,z,s,G⟩
  refine gh ?_
  refine lq (Bc (C6 rfl rfl rfl (.no _) (.no _) (.of (v:=a.length) rfl (by omega) (by omega)) (by omega) (by simp)) (v':=.slice (some ⟨f,a.length*5,none⟩) (a.length+(vs.length+p2.length)-a.length) (C-a.length)) (by rw[AB (by omega)];exact congrArg (λk=>Value.slice (some ⟨f,k,none⟩) _ _) (by omega))) ?_
  refine gh ?_
  refine lh (EO (cs:=vs.flatMap Ac) rfl rfl rfl rfl (by rw[fl];congr 1;omega) ((SM.of_block_pre b).sj _) (BM d) (by simp only[length_append,length_take,length_drop,fl,Ad];omega)) ?_;rintro _ _ _ ⟨rfl,rfl,rfl⟩
  refine gh ?_
  refine LL [0,1,2,3,4,5,6,7,8,109] [] ?_
  refine gh ?_
  refine dq rfl (Bc (C6 rfl rfl rfl (.no _) (.no _) (.of (v:=a.length+vs.length) rfl (by omega) (by omega)) (by omega) (by simp)) (v':=.slice (some ⟨f,a.length*5+vs.length*5,none⟩) (a.length+(vs.length+p2.length)-(a.length+vs.length)) (C-(a.length+vs.length))) (by rw[AB (by omega)];exact congrArg (λk=>Value.slice (some ⟨f,k,none⟩) _ _) (by omega))) ?_
  refine gh ?_
  refine dq rfl (Bc (C6 rfl rfl rfl (.no _) (.no _) (.of (v:=a.length+1) rfl (by omega) (by omega)) (by omega) (by simp)) (v':=.slice (some ⟨g,a.length*5+5,none⟩) (a.length+1+p2.length-(a.length+1)) (c-(a.length+1))) (by rw[AB (by omega)];exact congrArg (λk=>Value.slice (some ⟨g,k,none⟩) _ _) (by omega))) ?_
  refine dh rfl (EO (cs:=p2.flatMap Ac) rfl rfl rfl rfl (by rw[fl];congr 1;omega) (J6 (List.Mem.tail _ (List.Mem.head _)) (by rw[fl];show _=a.length*5+5;omega)) (BM e) (by simp only[length_append,length_take,length_drop,fl,Ad];omega)) ?_;rintro _ _ _ ⟨rfl,rfl,rfl⟩
  refine⟨MLe.refl _,by simp,?_⟩
  refine gh ?_
  refine AD (List.Sublist.cons_cons _ (List.nil_sublist _)) ?_
  refine Gd rfl rfl ?_
  grind[GC,wPi,fl,Ad]
 refine gh ?_
 refine lq (Bc (C6 rfl rfl rfl (.no _) (.of (v:=a.length+vs.length+p2.length) rfl (by omega) (by omega)) (.no _) (by omega) (by simp)) (v':=.slice (some ⟨g,0,none⟩) (a.length+vs.length+p2.length) (c)) (by rw[AZ];exact congrArg (λk=>Value.slice _ k _) (by omega))) ?_
 refine gj (λl=>?_) λl=>?_
 ·refine gh ?_
  refine lq (Bc (C6 rfl rfl rfl (.no _) (.no _) (.of (v:=a.length) rfl (by omega) (by omega)) (by omega) (by simp)) (v':=.slice (some ⟨g,a.length*5,none⟩) (a.length+vs.length+p2.length-a.length) (c-a.length)) (by rw[AB (by omega)];exact congrArg (λk=>Value.slice (some ⟨g,k,none⟩) _ _) (by omega))) ?_
  refine gh ?_
  refine lh (EO (cs:=vs.flatMap Ac) rfl rfl rfl rfl (by rw[fl];congr 1;omega) ((SM.of_block_pre b).sj _) (BM d) (by simp only[length_append,length_take,length_drop,fl,Ad];omega)) ?_;rintro _ _ _ ⟨rfl,rfl,rfl⟩
  have h:vs.length=1:=by omega
  rw[wHp _ _ _ _ _ (fl a) (by rw[fl,h];rfl)]
  refine gh ?_
  refine LL [0,1,2,3,4,5,6,7,8,109] [] ?_
  refine gh ?_
  refine dq rfl (Bc (C6 rfl rfl rfl (.no _) (.no _) (.of (v:=a.length+vs.length) rfl (by omega) (by omega)) (by omega) (by simp)) (v':=.slice (some ⟨g,a.length*5+vs.length*5,none⟩) (a.length+vs.length+p2.length-(a.length+vs.length)) (c-(a.length+vs.length))) (by rw[AB (by omega)];exact congrArg (λk=>Value.slice (some ⟨g,k,none⟩) _ _) (by omega))) ?_
  refine gh ?_
  refine dq rfl (Bc (C6 rfl rfl rfl (.no _) (.no _) (.of (v:=a.length+1) rfl (by omega) (by omega)) (by omega) (by simp)) (v':=.slice (some ⟨g,a.length*5+5,none⟩) (a.length+1+p2.length-(a.length+1)) (c-(a.length+1))) (by rw[AB (by omega)];exact congrArg (λk=>Value.slice (some ⟨g,k,none⟩) _ _) (by omega))) ?_
  refine dh rfl (EO (cs:=p2.flatMap Ac) rfl rfl rfl rfl (by rw[fl];congr 1;omega) (J6 (List.Mem.head _) (by rw[fl,fl];omega)) (BM e) (by simp only[length_append,length_take,length_drop,fl,Ad];omega)) ?_;rintro _ _ _ ⟨rfl,rfl,rfl⟩
  refine⟨MLe.refl _,by simp,?_⟩
  refine gh ?_
  refine lq (Bc (C6 rfl rfl rfl (.no _) (.no _) (.of (v:=a.length+vs.length+p2.length) rfl (by omega) (by omega)) (by omega) (by simp)) (v':=.slice (H7 (some ⟨g,0,none⟩) (a.length+vs.length+p2.length) c 5) 0 (c-(a.length+vs.length+p2.length))) (by congr 1;omega)) ?_
  refine Dz rfl (wJs rfl rfl rfl) ?_;rintro _ _ _ ⟨rfl,rfl⟩
  refine Am (jT (Ao (Ah ?_)))
  iterate 2 refine jp rfl ?_
  refine Am (jT (Bs (wLj ?_)))
  refine Gd rfl rfl ?_
  grind[GC,wAn,fl,Ad]
 refine gh ?_
 refine lq (Bc (C6 rfl rfl rfl (.no _) (.no _) (.of (v:=a.length+vs.length) rfl (by omega) (by omega)) (by omega) (by simp)) (v':=.slice (some ⟨g,a.length*5+vs.length*5,none⟩) (a.length+vs.length+p2.length-(a.length+vs.length)) (c-(a.length+vs.length))) (by rw[AB (by omega)];exact congrArg (λk=>Value.slice (some ⟨g,k,none⟩) _ _) (by omega))) ?_
 refine gh ?_
 refine Tj b (List.Mem.head _) (λi=>?_)
 refine lq (Bc (Yd (t:=133) (tr:=4) rfl rfl rfl rfl func175 rfl rfl (by kernel_rfl) (by kernel_rfl) b (List.Mem.head _) i (by simp only[length_append,fl];omega)) (v':=.bool false) (by rfl)) ?_
 refine gh ?_
 refine LL [0,1,2,3,4,5,6,7,8,109] [] ?_
 refine gh ?_
 refine dq rfl (Bc (C6 rfl rfl rfl (.no _) (.no _) (.of (v:=a.length+vs.length) rfl (by omega) (by omega)) (by omega) (by simp)) (v':=.slice (some ⟨g,a.length*5+vs.length*5,none⟩) (a.length+vs.length+p2.length-(a.length+vs.length)) (c-(a.length+vs.length))) (by rw[AB (by omega)];exact congrArg (λk=>Value.slice (some ⟨g,k,none⟩) _ _) (by omega))) ?_
 refine gh ?_
 refine dq rfl (Bc (C6 rfl rfl rfl (.no _) (.no _) (.of (v:=a.length+1) rfl (by omega) (by omega)) (by omega) (by simp)) (v':=.slice (some ⟨g,a.length*5+5,none⟩) (a.length+1+p2.length-(a.length+1)) (c-(a.length+1))) (by rw[AB (by omega)];exact congrArg (λk=>Value.slice (some ⟨g,k,none⟩) _ _) (by omega))) ?_
 refine dh rfl (EO (cs:=p2.flatMap Ac) rfl rfl rfl rfl (by rw[fl];congr 1;omega) (J6 (List.Mem.head _) (by rw[fl];show _=a.length*5+5;omega)) (BM e) (by simp only[length_append,length_take,length_drop,fl,Ad];omega)) ?_;rintro _ _ _ ⟨rfl,rfl,rfl⟩
 refine⟨MLe.refl _,by simp,?_⟩
 refine gh ?_
 refine lq (Bc (C6 rfl rfl rfl (.no _) (.no _) (.of (v:=a.length) rfl (by omega) (by omega)) (by omega) (by simp)) (v':=.slice (some ⟨g,a.length*5,none⟩) (a.length+vs.length+p2.length-a.length) (c-a.length)) (by rw[AB (by omega)];exact congrArg (λk=>Value.slice (some ⟨g,k,none⟩) _ _) (by omega))) ?_
 refine gh ?_
 refine lh (EO (cs:=vs.flatMap Ac) rfl rfl rfl rfl (by rw[fl];congr 1;omega) ((SM.of_block_pre b).sj _) (BM d) (by simp only[length_append,length_take,length_drop,fl,Ad];omega)) ?_;rintro _ _ _ ⟨rfl,rfl,rfl⟩
 refine Am (jT (Ao (Ah ?_)))
 iterate 2 refine jp rfl ?_
 refine Am (jT (Bs (wLj ?_)))
 refine Gd rfl rfl ?_
 exact GC ((wCc _ _ _ _ (a.length*5) (p2.length*5) (vs.length*5) (fl a) (fl p2) (fl vs) (by simp only[length_append,fl,Ad];omega)).trans (by rw[List.flatMap_append,List.flatMap_append])) (by rw[fl,length_append,length_append]) (by omega) j (by simp only[length_append,length_take,length_drop,fl,Ad];omega)
theorem wGw(a:List Ir)(y:Ir)(vs:List Ir)(g c:Nat)(d:List Value)(i o:Nat)(k:List Value)(l:TypeId)(M:Mem)(f:M i=some (cE (vs.flatMap Ac++k) l))(e:∀x∈vs,x.2.oneCell'=true)(B:0<vs.length)(C:a.length+1<=c)(h:c<=maxLen)(r:d.length=(c-(a.length+1))*5)(j:a.length+1+vs.length<=100000):
  SpecL prog 111 #[.slice (some ⟨g,0,none⟩) (a.length+1) c,.int .i64 a.length,.int .i64 ((a.length+1:Nat):Int),.slice (some ⟨i,0,none⟩) vs.length o] M [(g,cE (a.flatMap Ac++(Ac y++d)) IT)] λu D L'=>Own u L' IT 5 (a.length+vs.length) ((a++vs).flatMap Ac):=by
 refine sB func111 ntmps111 ?_;intro W
 refine gh ?_
 refine lq (C6 rfl rfl rfl (.no _) (.of (v:=a.length+1) rfl (by omega) (by omega)) (.of (v:=a.length) rfl (by omega) (by omega)) (by omega) (by simp)) ?_
 refine gt ?_
 refine lq (Bc (C6 rfl rfl rfl (.no _) (.of (v:=a.length) rfl (by omega) (by omega)) (.no _) (by omega) (by simp)) (v':=.slice (some ⟨g,0,none⟩) (a.length) (c)) (by rw[AZ];rfl)) ?_
 refine gh ?_
 refine lh (Dx (R:=[(g,cE (a.flatMap Ac++(Ac y++d)) IT)]) (n:=a.length) (m:=vs.length) (xs:=a.flatMap Ac) (news:=vs.flatMap Ac) rfl rfl rfl rfl (GC rfl (fl a) (by omega) h (by simp only[length_append,fl,Ad];omega)) (fl vs) (SM.of_block_pre f) rfl (BM e) (by omega) (by omega)) ?_;rintro _ _ _ ⟨rfl,s,rfl,b⟩
 obtain⟨z,t,rfl⟩:=b.form
 refine gt ?_
 refine AD (L':=s) (by simp) ?_
 refine Gd rfl rfl ?_
 grind
theorem SE(ps vs:List Ir)(i:Nat)(y:i<ps.length)(s:Option Addr)(k:Nat)(R:Lc)(e:Own (.slice s ps.length k) R IT 5 ps.length (ps.flatMap Ac))(o:∀x∈ps,x.2.oneCell'=true)(j n:Nat)(l:List Value)(m:TypeId)(M:Mem)(d:M j=some (cE (vs.flatMap Ac++l) m))(c:∀x∈vs,x.2.oneCell'=true)(t:0<vs.length)(z:ps.length+vs.length<=100000):
  SpecL prog 111 #[.slice s ps.length k,.int .i64 i,.int .i64 ((i+1:Nat):Int),.slice (some ⟨j,0,none⟩) vs.length n] M R λu _ G=>Own u G IT 5 (ps.length-1+vs.length) ((ps.take i++vs++ps.drop (i+1)).flatMap Ac):=by
 obtain⟨g,r,rfl,rfl,H,C,B⟩:=HU e y
 have a:(ps.take i).length=i:=by rw[length_take];omega
 have f:(ps.drop (i+1)).length=ps.length-(i+1):=length_drop
 have F:ps.drop i=ps[i]::ps.drop (i+1):=List.drop_eq_getElem_cons y
 rw[F,List.flatMap_cons,append_assoc]
 by_cases h:i+1=ps.length
 ·have E:ps.drop (i+1)=[]:=List.drop_eq_nil_of_le (by omega)
  have b:=wGw (ps.take i) ps[i] vs g k r j n l m M d c t (by omega) C (by rw[a,h];exact B) (by omega)
  rw[a,show i+vs.length=ps.length-1+vs.length by omega]at b
  rw[E,List.flatMap_nil,nil_append,List.append_nil,<-h]
  rw[<-h]at b
  exact b
 have b:=wGv (ps.take i) ps[i] (ps.drop (i+1)) vs g k r j n l m M d c (λx D=>o x (List.mem_of_mem_drop D)) t (by omega) (by omega) C (by rw[a,f,show i+1+(ps.length-(i+1))=ps.length by omega];exact B) (by omega)
 rw[a,f,show i+1+(ps.length-(i+1))=ps.length by omega,show i+vs.length+(ps.length-(i+1))=ps.length-1+vs.length by omega]at b
 exact b
set_option maxRecDepth 8000
set_option maxHeartbeats 40000000
theorem bws(a:Option Addr)(n c:Nat)(M:Mem):
  SpecL prog 110 #[.slice a n c] M [] λu f g=>∃b,u=.func (.func 173) #[] #[pB b]/\f b=some (.cells #[.slice a n c] 177 (0,0))/\g=[]:=by
 refine sB func110 ntmps110 ?_;intro W
 refine gh ?_
 refine lh (Bf (cs:=[.slice a n c]) rfl rfl rfl rfl) ?_;rintro _ _ _ ⟨e,rfl,rfl,rfl⟩
 refine gh ?_
 refine AP e (by simp) ?_
 intro i d h
 refine gr ?_
 grind
theorem wEt(b:Nat)(a:Option Addr)(c:Nat)(xs:List (Stp×Value))(M:Mem)(G:M b=some (.cells #[.slice a xs.length c] 177 (0,0)))(hs:SM M a (xs.flatMap A0))(Q:xs.length<=1000000)(l:Nat)(J C:List ((Stp×Value)×Nat)->Mem->Lc->Prop)(g:Mem)(u:Lc)(z:MLe M g)(H:∀pre y M2 L2,MLe g M2->J pre M2 L2->pre++[y]<+:bw xs 0->DD prog l ((λp:(Stp×Value)×Nat=>[.int .i64 p.2,.agg (A0 p.1).toArray]) y).toArray M2 L2 λv j L'=>(v=.bool true/\J (pre++[y]) j L')\/(v=.bool false/\C (pre++[y]) j L'))(I:J [] g u):
  SpecL prog 173 #[.func (.yield l) #[] #[],pB b] g u λ_ j L'=>J (bw xs 0) j L'\/∃pre,pre<+:bw xs 0/\C pre j L':=by
 have n:∀{M2:Mem}(L:Lc),MLe g M2->CJ M2 L b 0 (.slice a xs.length c):=λL h=>(CM.cj ⟨_,_,_,h _ _ (z _ _ G),rfl⟩ L)
 refine sB func173 ntmps173 ?_;intro W
 refine gh ?_
 refine lq (AE rfl rfl rfl rfl (n _ (MLe.refl _))) ?_
 refine gh ?_
 refine Cz (α:=Int×Mem×Lc) (λx=>[(0,.func (.yield l) #[] #[]),(1,pB b),(3,.int .i64 x.1)]) (λx=>x.2.1) (λx=>x.2.2) (λx=> -1<=x.1/\x.1<xs.length/\MLe g x.2.1/\J (bw xs (x.1+1).toNat) x.2.1 x.2.2) (λx=>(x.1+1).toNat) ((xs.length:Int)-1,g,u) ⟨by show -1<=(xs.length:Int)-1;omega,by show (xs.length:Int)-1<xs.length;omega,MLe.refl _,by show J (bw xs ((xs.length:Int)-1+1).toNat) _ _;rw[show ((xs.length:Int)-1+1).toNat=xs.length by omega,PA];exact I⟩ ?_
 rintro⟨i,N,O⟩ ⟨r,F,d,o⟩
 try dsimp only at r F d o⊢
 refine gj (λs=>?_) λs=>?_
 ·refine gh ?_
  obtain⟨k,rfl⟩:∃k:Nat,i=k:=⟨i.toNat,by omega⟩
  have f:k<xs.length:=by omega
  obtain⟨sb,P,K,D⟩:=hs.open (by intro e;have:=congrArg length e;rw[Aj A0 3 Dc,length_nil]at this;omega)
  subst K
  refine lq (AE rfl rfl rfl rfl (n _ d)) ?_
  refine gh ?_
  refine lq (Bb (cs:=A0 xs[k]) rfl rfl rfl rfl rfl (λi v E=>((Cs A0 3 Dc D (show xs[k]? =some xs[k]by simp[f]) i v E).mono (z.trans d)).cj _)) ?_
  refine lh (Hu rfl rfl rfl rfl (H (bw xs (k+1)) (xs[k],k) N O d (by rwa[show ((k:Int)+1).toNat=k+1 by omega]at o) (by rw[<-Ew xs f];exact C0 xs k))) ?_;rintro _ j _ ⟨t,B,rfl,m⟩
  rw[<-Ew xs f]at m
  rcases m with⟨rfl,m⟩|⟨rfl,m⟩
  ·refine gh ?_
   refine Bw ((k:Int)-1,j,B) ⟨by show -1<=(k:Int)-1;omega,by show (k:Int)-1<xs.length;omega,d.trans t,by show J (bw xs ((k:Int)-1+1).toNat) _ _;rw[show ((k:Int)-1+1).toNat=k by omega];exact m⟩
  refine gh ?_
  refine AD (L':=B) (by simp) ?_
  refine JV (rs:=[]) rfl .nil ?_
  grind[C0]
 refine gh ?_
 refine Ug ?_
 refine JV (rs:=[]) rfl .nil ?_
 grind
theorem wEs(b:Nat)(a:Option Addr)(c:Nat)(xs:List (Stp×Value))(M:Mem)(e:M b=some (.cells #[.slice a xs.length c] 177 (0,0)))(hs:SM M a (xs.flatMap A0))(d:xs.length<=1000000):Iter prog 173 [pB b] M (λp:(Stp×Value)×Nat=>[.int .i64 p.2,.agg (A0 p.1).toArray]) (bw xs 0):=
 λl J k i j f g h=>wEt b a c xs M e hs d l J k i j f g h
theorem VB(c:Nat)(M:Mem):
  SpecL prog 112 #[.slice none 0 c] M [] λv _ a=>Own v a IT 5 0 []:=by
 refine sB func112 ntmps112 ?_;intro W
 refine gh ?_
 refine lq (Bc (KY rfl rfl rfl rfl) (v':=.bool true) (by simp)) ?_
 refine gr ?_
 grind[Own.nil]
theorem wAj(b:Nat):Own (.slice (some ⟨b,0,none⟩) 0 0) [(b,cE ([]:List Value) IT)] IT 5 0 []:=⟨rfl,.inr ⟨b,0,_,rfl,rfl,Nat.le_refl _,Nat.zero_le _,rfl,rfl⟩⟩
theorem Ts(b:Addr)(n c:Nat)(a:List Value)(M:Mem)(hs:SM M (some b) a)(e:a.length=n*5)(f:∀v∈a,v.oneCell'=true)(j:n<=1000000):
  SpecL prog 112 #[.slice (some b) n c] M [] λv _ h=>Own v h IT 5 n a:=by
 refine sB func112 ntmps112 ?_;intro W
 refine gh ?_
 refine lq (Bc (KY rfl rfl rfl rfl) (v':=.bool false) (by simp)) ?_
 refine gh ?_
 refine lh (Aa (z:=zeroIt) (cs:=[]) rfl rfl rfl (by rfl) (by rfl) (by rfl)) ?_;rintro _ _ _ ⟨g,rfl,rfl,rfl⟩
 refine gh ?_
 refine lh (Dx (n:=0) (xs:=[]) (news:=a) rfl rfl rfl rfl (wAj g) e hs rfl f (by omega) (by decide)) ?_;rintro i _ _ ⟨rfl,k,rfl,d⟩
 refine jp rfl ?_
 refine Am (jT (Bs ?_))
 refine Gd rfl rfl ?_
 grind
theorem EH(a:Option Addr)(c:Nat)(ps:List Ir)(M:Mem)(hs:SM M a (ps.flatMap Ac))(e:∀x∈ps,x.2.oneCell'=true)(d:ps.length<=1000000):SpecL prog 112 #[.slice a ps.length c] M [] λv _ g=>Own v g IT 5 ps.length (ps.flatMap Ac):=by
 cases a with
 |none=>
  have f:ps.flatMap Ac=[]:=hs.elim id (λ⟨_,_,h,_⟩=>by cases h)
  have:ps=[]:=by
   cases ps with
   |nil=>rfl
   |cons p ps=>simp[Ac]at f
  subst this
  exact VB c M
 |some b=>exact Ts b ps.length c (ps.flatMap Ac) M hs (fl ps) (BM e) d
variable{M:Mem}{ps:List Ir}
theorem Dl(h:∀p∈ps,BS M p.2 p.1.val):∀x∈ps,x.2.oneCell'=true:=λx a=>by
 obtain⟨_,_,e,_⟩:=h x a;rw[e];rfl
theorem ZX(ps vs:List Ir)(i:Nat)(r:i<=ps.length)(f:Option Addr)(d:Nat)(R:Lc)(b:Own (.slice f ps.length d) R IT 5 ps.length (ps.flatMap Ac))(j:∀x∈ps,x.2.oneCell'=true)(k:ps.length<=d)(e n:Nat)(l:List Value)(m:TypeId)(M:Mem)(h:M e=some (cE (vs.flatMap Ac++l) m))(g:∀x∈vs,x.2.oneCell'=true)(o:0<vs.length)(c:ps.length+vs.length<=100000):
  SpecL prog 111 #[.slice f ps.length d,.int .i64 i,.int .i64 i,.slice (some ⟨e,0,none⟩) vs.length n] M R λu _ L'=>Own u L' IT 5 (ps.length+vs.length) ((ps.take i++vs++ps.drop i).flatMap Ac):=by
 refine sB func111 ntmps111 ?_;intro W
 refine gh ?_
 refine lq (C6 rfl rfl rfl (.no _) (.of (v:=i) rfl (by omega) rfl) (.of (v:=i) rfl (by omega) rfl) (by omega) (by simp)) ?_
 refine gt ?_
 refine gC (wCd ps vs i r f d R b j k e n l m M h g o c) ?_;rintro _ t s _ a
 refine gh ?_
 refine AD (L':=s) (by simp) ?_
 refine Gd rfl rfl ?_
 exact a
theorem Uq(w:Stp)(a:Option Addr)(c:Nat)(M:Mem):
  SpecL prog 171 #[.agg #[.int .i64 w.lv,.slice a w.xs.length c,.int .i64 w.at_]] M [] λv _ _=>v=.bool (decide (w.xs.length<5)):=by
 refine sB func171 ntmps171 ?_;intro W
 refine gh ?_
 refine lh (Bf (cs:=[.int .i64 w.lv,.slice a w.xs.length c,.int .i64 w.at_]) rfl rfl rfl rfl) ?_;rintro _ _ _ ⟨b,rfl,rfl,rfl⟩
 refine gr ?_
 exact congrArg _ (decide_eq_decide.2 (by omega))
variable{k sb:Nat}{ws:List Stp}
theorem HL{g:Nat}{ps:List (Stp×Value)}(h:∀i u,(ps.flatMap A0)[i]? =some u->CM M sb (g+i) u)(hp:ps.map (·.1)=ws)(j:∀p∈ps,NS M p.2 p.1.xs)(hk:k<ws.length):
  ∃a c,(∀i v,([.int .i64 ws[k].lv,.slice a ws[k].xs.length c,.int .i64 ws[k].at_]:List Value)[i]? =some v->CM M sb (g+k*3+i) v)/\NS M (.slice a ws[k].xs.length c) ws[k].xs:=by
 have b:k<ps.length:=by grind
 have f:ws[k]=ps[k].1:=by grind
 have d:=j ps[k] (getElem_mem b)
 obtain⟨a,c,l,e,s,r,o,n⟩:=id d
 rw[<-f]at e d
 refine⟨a,c,λi v m=>Cs A0 3 Dc h (show ps[k]? =some ps[k]by simp[b]) i v ?_,by rw[e]at d;exact d⟩
 grind[A0]
theorem wFd(h:k<ws.length):(ws.take (k+1)).any (λw=>decide (w.xs.length<5))=((ws.take k).any (λw=>decide (w.xs.length<5))||decide (ws[k].xs.length<5)):=by
 rw[List.take_succ_eq_append_getElem h,List.any_append];simp
theorem XQ(ws:List Stp)(a:Option Addr)(c:Nat)(ps:List (Stp×Value))(M:Mem)(B:ws.length<=c)(hs:SM M a (ps.flatMap A0))(hp:ps.map (·.1)=ws)(r:∀p∈ps,NS M p.2 p.1.xs)(z:ws.length<=1000):
  SpecL prog 209 #[.slice a ws.length c,.func (.func 171) #[] #[]] M [] λv _ _=>∃i:Int,v=.int .i64 i/\(0<=i↔ws.any (λw=>decide (w.xs.length<5))=true):=by
 refine sB func209 ntmps209 ?_;intro W
 refine gh ?_
 refine Cz (α:=Nat) (λk=>[(0,.slice a ws.length c),(1,.func (.func 171) #[] #[]),(7,.int .i64 ws.length),(8,.int .i64 k)]) (λ_=>M) (λ_=>[]) (λk=>k<=ws.length/\(ws.take k).any (λw=>decide (w.xs.length<5))=false) (λk=>ws.length-k) 0 ⟨Nat.zero_le _,rfl⟩ ?_
 rintro k ⟨o,j⟩
 try dsimp only at o j⊢
 refine gj (λs=>?_) λs=>?_
 ·refine gh ?_
  have b:k<ws.length:=by omega
  obtain⟨sb,y,u,l⟩:=hs.open (by intro e;have:=congrArg length e;rw[Aj A0 3 Dc,length_nil]at this;have t:=congrArg length hp;rw[length_map]at t;omega)
  cases u
  obtain⟨h,g,f,m⟩:=HL l hp r b
  refine gh ?_
  refine lq (Bb (cs:=[.int .i64 ws[k].lv,.slice h ws[k].xs.length g,.int .i64 ws[k].at_]) rfl rfl rfl rfl rfl (λi v n=>(f i v n).cj _)) ?_
  refine Br rfl rfl (CG rfl rfl rfl rfl rfl (by kernel_rfl) (Uq ws[k] h g M)) (λd=>?_) (λd=>?_)
  ·refine gr ?_
   grind
  refine gh ?_
  refine Bw (k+1) ⟨by omega,by rw[wFd b,j,d];rfl⟩
 refine gr ?_
 grind
theorem XR(ws:List Stp)(a:Option Addr)(c:Nat)(ps:List (Stp×Value))(M:Mem)(d:ws.length<=c)(hs:SM M a (ps.flatMap A0))(hp:ps.map (·.1)=ws)(e:∀p∈ps,NS M p.2 p.1.xs)(b:ws.length<=1000):
  SpecL prog 170 #[.slice a ws.length c,.func (.func 171) #[] #[]] M [] λv _ _=>v=.bool (ws.any (λw=>decide (w.xs.length<5))):=by
 refine sB func170 ntmps170 ?_;intro W
 refine gC (XQ ws a c ps M d hs hp e b) ?_;rintro _ h _ f ⟨i,rfl,g⟩
 refine gr ?_
 grind
theorem XJ(ws:List Stp)(a:Option Addr)(c:Nat)(ps:List (Stp×Value))(M:Mem)(H:ws.length<=c)(hs:SM M a (ps.flatMap A0))(hp:ps.map (·.1)=ws)(C:∀p∈ps,NS M p.2 p.1.xs)(G:ws.length<=1000)(q:Ky)(J:0<ws.length)(u:∀w∈ws,w.xs.length<=100):
  SpecL prog 108 #[.slice a ws.length c,.agg (AG q).toArray] M [] λv _ _=>v=.bool (DT ws q):=by
 refine sB func108 ntmps108 ?_;intro W
 refine gh ?_
 refine lh (Bf (cs:=[.int .u8 q.kind,.int .u32 q.id,.int .u32 q.off]) rfl rfl rfl rfl) ?_;rintro _ _ _ ⟨K,rfl,rfl,rfl⟩
 refine gg ?_
 refine Br rfl rfl (CG rfl rfl rfl rfl rfl (by kernel_rfl) (XR ws a c ps M H hs hp C G)) (λI=>?_) (λI=>?_)
 ·refine gh ?_
  refine JG [0,1,2,3,4,5,6,7,8,9,10,11,12,13] ?_
  iterate 2 refine dp rfl rfl ?_
  refine dq rfl (KZ rfl rfl rfl) ?_
  refine dq rfl (Bc (qA rfl rfl rfl rfl rfl (by omega)) (v':=.int .i64 ((ws.length-1:Nat):Int)) (congrArg _ (by omega))) ?_
  have f:ws.length-1<ws.length:=by omega
  obtain⟨sb,F,E,B⟩:=hs.open (by intro e;have:=congrArg length e;rw[Aj A0 3 Dc,length_nil]at this;have D:=congrArg length hp;rw[length_map]at D;omega)
  cases E
  obtain⟨t,s,o,k⟩:=HL B hp C f
  obtain⟨z,y,g,ev,l,h,j,m⟩:=id k
  cases ev
  refine gh ?_
  refine dq rfl (Bb (cs:=[.int .i64 ws[ws.length-1].lv,.slice t ws[ws.length-1].xs.length s]) rfl rfl rfl rfl rfl (λi v b=>(o i v (by match i,b with|0,b=>exact b|1,b=>exact b|n+2,b=>simp at b)).cj _)) ?_
  refine dq rfl (Gz rfl rfl rfl rfl rfl) ?_
  refine dq rfl (qC (Fb _ ws[ws.length-1].xs q t s g M l h j m (by have:=u _ (getElem_mem f);omega))) ?_
  iterate 2 refine dp rfl rfl ?_
  refine Qh rfl rfl rfl (qP rfl rfl) (λr=>?_) (λr=>?_)
  ·refine gj (λd=>?_) λd=>?_
   ·refine gr ?_
    grind[DT]
   refine gr ?_
   grind[DT]
  refine gj (λd=>?_) λd=>?_
  ·refine gr ?_
   grind[DT]
  refine gr ?_
  grind[DT]
 refine gh ?_
 refine JG [0,1,2,3,4,5,6,7,8,9,10,11,12,13] ?_
 iterate 2 refine dp rfl rfl ?_
 refine dq rfl (KZ rfl rfl rfl) ?_
 refine dq rfl (Bc (qA rfl rfl rfl rfl rfl (by omega)) (v':=.int .i64 ((ws.length-1:Nat):Int)) (congrArg _ (by omega))) ?_
 have f:ws.length-1<ws.length:=by omega
 obtain⟨sb,F,E,B⟩:=hs.open (by intro e;have:=congrArg length e;rw[Aj A0 3 Dc,length_nil]at this;have D:=congrArg length hp;rw[length_map]at D;omega)
 cases E
 obtain⟨t,s,o,k⟩:=HL B hp C f
 obtain⟨z,y,g,ev,l,h,j,m⟩:=id k
 cases ev
 refine gh ?_
 refine dq rfl (Bb (cs:=[.int .i64 ws[ws.length-1].lv,.slice t ws[ws.length-1].xs.length s]) rfl rfl rfl rfl rfl (λi v b=>(o i v (by match i,b with|0,b=>exact b|1,b=>exact b|n+2,b=>simp at b)).cj _)) ?_
 refine dq rfl (Gz rfl rfl rfl rfl rfl) ?_
 refine dq rfl (qC (Fb _ ws[ws.length-1].xs q t s g M l h j m (by have:=u _ (getElem_mem f);omega))) ?_
 iterate 2 refine dp rfl rfl ?_
 refine Qh rfl rfl rfl (qP rfl rfl) (λr=>?_) (λr=>?_)
 ·refine gj (λd=>?_) λd=>?_
  ·refine gr ?_
   grind[DT]
  refine gr ?_
  grind[DT]
 refine gj (λd=>?_) λd=>?_
 ·refine gr ?_
  grind[DT]
 refine gr ?_
 grind[DT]
theorem chk8{x:It}(h:¬BY x=0):BY x=8:=by
 rcases Ht x with⟨_,a⟩|⟨_,a⟩
 ·exact a
 omega
theorem Zc(s:Sto)(a:Int)(x:It)(y:Value)(m k nv l:Value)(M:Mem)(L:LS M m s.blocks)(K:WS M k s.waits)(B:BS M nv s.now)(J:BS M l s.last)(z:BS M y x.val):
  SpecL prog 106 #[.agg #[m,k,nv,l],.int .i64 a,.agg #[.int .u8 x.key.kind,.int .u32 x.key.id,.int .u32 x.key.off,.int .i64 x.ref,y]] M [] λv _ _=>v=.int .i64 (CL s a x):=by
 have u:ST M (.agg #[m,k,nv,l]) s:=⟨_,_,_,_,rfl,L,K,B,J⟩
 obtain⟨D,C,rfl,G,E⟩:=id z
 refine sB func106 ntmps106 ?_;intro W
 refine gh ?_
 refine lh (Bf (cs:=[m,k,nv,l]) rfl rfl rfl rfl) ?_;rintro _ _ _ ⟨T,rfl,rfl,rfl⟩
 refine lh (Bf (cs:=Fk x D C) rfl rfl rfl rfl) ?_;rintro _ _ _ ⟨S,rfl,rfl,rfl⟩
 refine gQ (Hw s _ a M u) ?_
 refine gj (λi=>?_) λi=>?_
 ·refine gr ?_
  grind[fchk,CL]
 refine gQ (CR x _ M z) ?_
 refine gj (λg=>?_) λg=>?_
 ·refine gr ?_
  grind[CL,chk8]
 refine gj (λf=>?_) λf=>?_
 ·refine gh ?_
  have c:(fchk s a).2=0:=Classical.not_not.1 i
  have n:=(CT c).1
  have t:s.now.length=256:=n.2.1.1
  obtain⟨R,P,rfl,H,r⟩:=id B
  obtain⟨Q,O,N,o⟩:=r.open (by intro e;have:=congrArg length e;rw[Af,length_nil]at this;omega)
  cases N
  have b:BY x=0:=Classical.not_not.1 g
  have I:=of_decide_eq_false (show decide _=false from CH b)
  have F:0<=x.ref/\x.ref<256:=by omega
  refine gh ?_
  refine lq (AE rfl rfl rfl rfl ((o _ _ (by rw[Nat.mul_one];exact Cc (j:=x.ref.toNat) (by omega))).cj _)) ?_
  refine gj (λd=>?_) λd=>?_
  ·refine gr ?_
   refine congrArg _ ?_
   unfold CL;rw[if_pos c,if_pos b,if_pos ⟨f,UInt8.toNat.inj (by simpa using d)⟩]
  refine gr ?_
  refine congrArg _ ?_
  unfold CL;rw[if_pos c,if_pos b,if_neg (λh=>d (by rw[h.2];rfl))]
 refine gr ?_
 grind[CL]
set_option maxRecDepth 8000
def BP(k:Ky):Prop:=(0<=k.kind/\k.kind<256)/\(0<=k.id/\k.id<4294967296)/\(0<=k.off/\k.off<4294967296)
theorem wNc{x:It}(r:List By)(e:BQ x=false)(hk:BP x.key):SG (FX x++r)=0/\G0 (FX x++r)=x/\(FX x++r).drop (EK (FX x++r))=r:=by
 obtain⟨⟨t,s⟩,i,h⟩:=hk
 have j:=of_decide_eq_false (show decide _=false from e)
 have u:x.val.length<=12:=by omega
 have y:0<=x.ref/\x.ref<256:=by omega
 have b:FX x++r=[bU x.key.kind]++(A6 x.key.id++(A6 x.key.off++(Cy x.ref++([bU x.val.length]++(x.val++r))))):=by
  unfold FX;simp only[append_assoc]
 have c:(FX x++r).getD 11 0=bU x.val.length:=by rw[b];rfl
 have g:EK (FX x++r)=12+x.val.length:=by
  unfold EK;rw[c];have:=Ft x.val.length;omega
 have z:(FX x++r).length=12+x.val.length+r.length:=by
  rw[b];simp[A6,Cy];omega
 have o:(((FX x++r).getD 0 0).toNat:Int)=x.key.kind:=by
  rw[b];show ((bU x.key.kind).toNat:Int)=_;rw[Ft];omega
 have m:Cl (FX x++r) 1 4=x.key.id:=by
  rw[D4 (xs:=FX x++r) (a:=1) (n:=4) [bU x.key.kind] (A6 x.key.id) _ b rfl rfl,Eo i]
 have l:Cl (FX x++r) 5 4=x.key.off:=by
  rw[D4 (xs:=FX x++r) (a:=5) (n:=4) ([bU x.key.kind]++A6 x.key.id) (A6 x.key.off) (Cy x.ref++([bU x.val.length]++(x.val++r))) (by rw[b];simp only[append_assoc]) rfl rfl,Eo h]
 have k:Cl (FX x++r) 9 2=x.ref:=by
  rw[D4 (xs:=FX x++r) (a:=9) (n:=2) ([bU x.key.kind]++A6 x.key.id++A6 x.key.off) (Cy x.ref) ([bU x.val.length]++(x.val++r)) (by rw[b];simp only[append_assoc]) rfl rfl,J1 (by omega)]
 have d:(FX x++r).drop 12=x.val++r:=by
  rw[b];rfl
 have f:G0 (FX x++r)=x:=by
  unfold G0
  rw[o,m,l,k,d,g,Nat.add_sub_cancel_left,List.take_left]
 refine⟨?_,f,?_⟩
 ·unfold SG
  rw[if_neg (by omega),if_neg (by omega),f]
  unfold BY;rw[e];rfl
 rw[g,<-List.drop_drop,d,List.drop_left]
theorem Tq:∀(xs:List It)(r:List By)(a:List It),(∀x∈xs,BQ x=false)->(∀x∈xs,BP x.key)->B6 xs.length (xs.flatMap FX++r) a=some (a++xs,r)
 |[],r,a,_,_=>by simp[B6]
 |x::xs,r,a,d,c=>by
  obtain⟨g,f,e⟩:=wNc (x:=x) (xs.flatMap FX++r) (d x (by simp)) (c x (by simp))
  rw[List.flatMap_cons,append_assoc,List.length_cons,NC g,f,e,Tq xs r (a++[x]) (λy b=>d y (by simp[b])) (λy b=>c y (by simp[b]))]
  simp
variable{lv:Int}{xs:List It}
theorem wHs(c:Cw lv xs=true)(hk:∀x∈xs,BP x.key):C1 (Je lv xs)=some (lv,xs):=by
 have b:=NdOk.of c
 have a:=λx g=>(BX b.ok x g).1
 have l:=Gf a
 have j:=b.lev
 have k:=b.len
 have h:(C4 lv xs).length=3+(xs.flatMap FX).length:=by unfold C4;rw[length_append];rfl
 have i:(C4 lv xs).length<=124:=by omega
 have m:(Je lv xs).drop 4=DX (C4 lv xs):=rfl
 have d:DX (C4 lv xs)=[78,bU lv,bU xs.length]++(xs.flatMap FX++replicate (124-(C4 lv xs).length) 0):=by
  unfold DX;rw[<-append_assoc];rfl
 have t:((DX (C4 lv xs)).getD 0 0).toNat=78:=by rw[d];rfl
 have s:(((DX (C4 lv xs)).getD 1 0).toNat:Int)=lv:=by rw[d];show ((bU lv).toNat:Int)=_;rw[Ft];omega
 have r:((DX (C4 lv xs)).getD 2 0).toNat=xs.length:=by
  have:(((DX (C4 lv xs)).getD 2 0).toNat:Int)=xs.length:=by rw[d];show ((bU xs.length).toNat:Int)=_;rw[Ft];omega
  omega
 have o:(DX (C4 lv xs)).drop 3=xs.flatMap FX++replicate (124-(C4 lv xs).length) 0:=by rw[d];rfl
 rw[F4 m (Qb i) t (by omega),s,r,o,Tq xs _ [] a hk]
 have e:C3 (replicate (124-(C4 lv xs).length) 0)=true:=by
  unfold C3;rw[List.all_eq_true];intro y f;rw[(List.mem_replicate.1 f).2];rfl
 have n:CW lv xs=0:=by unfold CW;rw[if_pos (by simpa using c)]
 show (if CW lv ([]++xs)=0/\C3 (replicate (124-(C4 lv xs).length) 0)=true then some (lv,[]++xs)else none)=_
 rw[nil_append,if_pos ⟨n,e⟩]
end Go.Proofs.YtdahhoicackcaaaGreat
