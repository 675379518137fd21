/- Walks: del's way, join, Cb, lower. No statement of the seat is proved here. -/
import Derived.Test.YtdahhoicackcaaaGreatZHn
import Derived.Test.YtdahhoicackcaaaGreatZDelf
import Derived.Test.YtdahhoicackcaaaGreatZNdr
import Derived.Test.YtdahhoicackcaaaGreatZDelg
namespace Go.Proofs.YtdahhoicackcaaaGreat
open Go.Proofs.Tryz
open List (length_append take_left append_assoc length_take length_drop flatMap_append mem_cons not_mem_nil flatMap_cons length_map getElem_mem length length_nil map_append)
set_option linter.unusedSimpArgs false
set_option linter.unusedVariables false
set_option linter.unusedSectionVars false
open Go.RowKit
set_option maxRecDepth 8000
set_option maxHeartbeats 40000000
variable{a g:Nat}
theorem FR{b n n' c d:Nat}(h:a=b)(f:n=n')(e:c=d):Value.slice (some ⟨g,a,none⟩) n c=Value.slice (some ⟨g,b,none⟩) n' d:=by subst h;subst f;subst e;rfl
variable{A l:List Value}{off:Nat}
theorem YZ{B X Z Y:List Value}(c:l.take a=A)(b:off=A.length+B.length):(l.take a++B++X).take off++Z++Y=(A++B)++(Z++Y):=by
 subst b
 rw[c,show A.length+B.length=(A++B).length by rw[length_append],take_left,append_assoc]
variable{e:TypeId}
theorem Q1{n b:Nat}{B Z:List Value}(h:l.take a=A)(c:off=A.length+B.length)(f:A.length+B.length=n*5)(k:n+1<=b)(d:b<=maxLen)(j:l.length=b*5)(m:Z.length=5)(i:a+B.length<=l.length):
  Own (.slice (some ⟨g,0,none⟩) n b) [(g,cE ((l.take a++B++l.drop (a+B.length)).take off++Z++(l.take a++B++l.drop (a+B.length)).drop (off+Z.length)) e)] e 5 n (A++B):=by
 refine GC (YZ h c) (by rw[length_append];exact f) (by omega) d ?_
 simp only[length_append,length_take,length_drop]
 omega
variable{L:Lc}{M:Mem}{sp:List Value}{y:Ir}
theorem wMh{c:Nat}{a p2:List Ir}(b:(g,cE (a.flatMap Ac++(Ac y++(p2.flatMap Ac++sp))) e)∈L)(d:a.length+1+p2.length<=c):SJ M L (H7 (some ⟨g,0,none⟩) (a.length+1) c 5) (p2.flatMap Ac):=by
 cases p2 with
 |nil=>exact .inl rfl
 |cons z zs=>
  rw[List.length_cons]at d
  rw[AB (by omega)]
  exact J6 b (by rw[fl];show 0+(a.length+1)*5=a.length*5+5;omega)
theorem Xk(a:List Ir)(Y:List Value):(a.flatMap Ac++Y).take (0+a.length*5)=a.flatMap Ac:=by rw[Nat.zero_add,<-fl a,take_left]
theorem wNq(a:List Ir)(y:Ir)(p2:List Ir)(g c:Nat)(e:List Value)(M:Mem)(b:∀x∈p2,x.2.oneCell'=true)(i:a.length+1+p2.length<=c)(d:c<=maxLen)(h:e.length=(c-(a.length+1+p2.length))*5)(f:a.length+1+p2.length<=100000):
  SpecL prog 124 #[.slice (some ⟨g,0,none⟩) (a.length+1+p2.length) c,.int .i64 a.length,.int .i64 ((a.length+1:Nat):Int)] M [(g,cE (a.flatMap Ac++(Ac y++(p2.flatMap Ac++e))) IT)] λu M' j=>Own u j IT 5 (a.length+p2.length) ((a++p2).flatMap Ac):=by
 refine sB func124 ntmps124 ?_;intro W
 refine gh ?_
 refine lq (Bc (C6 rfl rfl rfl (.of (v:=a.length+1+p2.length) rfl (by omega) (by omega)) (.of (v:=a.length+1) rfl (by omega) (by omega)) (.of (v:=a.length) rfl (by omega) (by omega)) (by omega) (by simp)) (v':=.slice (some ⟨g,a.length*5,none⟩) (1) (a.length+1+p2.length-a.length)) (by rw[AB (by omega)];exact FR (by omega) (by omega) (by omega))) ?_
 refine gt ?_
 refine LL [0,1,2,3,4,5,106,7] [] ?_
 refine gh ?_
 refine dq rfl (Bc (C6 rfl rfl rfl (.no _) (.of (v:=a.length) rfl (by omega) (by omega)) (.no _) (by omega) (by simp)) (v':=.slice (some ⟨g,0,none⟩) (a.length) (c)) (by rw[AZ];rfl)) ?_
 refine gh ?_
 refine dq rfl (C6 rfl rfl rfl (.no _) (.no _) (.of (v:=a.length+1) rfl (by omega) (by omega)) (by omega) (by simp)) ?_
 refine dh rfl (Pe (cs:=p2.flatMap Ac) rfl rfl rfl rfl (by rw[fl];congr 1;omega) (wMh (List.Mem.head _) i) (BM b) (by omega) (by simp only[length_append,length_take,length_drop,fl,Ad];omega)) ?_;rintro _ _ _ ⟨rfl,rfl,rfl⟩
 refine⟨MLe.refl _,by simp,?_⟩
 refine gh ?_
 refine lq (Bc (C6 rfl rfl rfl (.no _) (.of (v:=a.length+1+p2.length) rfl (by omega) (by omega)) (.of (v:=a.length+(a.length+1+p2.length-(a.length+1))) rfl (by omega) (by omega)) (by omega) (by simp)) (v':=.slice (some ⟨g,(a.length+p2.length)*5,none⟩) (1) (c-(a.length+p2.length))) (by rw[AB (by omega)];exact FR (by omega) (by omega) (by omega))) ?_
 refine Dz rfl (VD rfl rfl rfl (by decide) (by simp[Value.oneCell']) (by simp only[length_append,length_take,length_drop,fl,Ad];omega)) ?_;rintro _ _ _ ⟨rfl,rfl⟩
 refine Am (jT (Ao (Ah ?_)))
 iterate 2 refine jp rfl ?_
 refine Am (jT (Bs ?_))
 refine Gd rfl rfl ?_
 rw[show a.length+(a.length+1+p2.length-(a.length+1))=a.length+p2.length by omega,flatMap_append]
 exact Q1 (Xk a _) (by rw[fl,fl];omega) (by rw[fl,fl];omega) (by omega) d (by simp only[length_append,length_take,length_drop,fl,Ad];omega) rfl (by simp only[length_append,length_take,length_drop,fl,Ad];omega)
theorem wGn{Y B:List Value}(b:(g,cE (A++(Y++(B++sp))) e)∈L)(a:off=A.length+Y.length):SJ M L (some ⟨g,off,none⟩) B:=J6 b a
theorem Zy(A V Y T:List Value)(a:Nat)(e:A.length=a)(d:V.length=5)(c:Y.length=5)(b:List Value):(A++(Y++b++T)).take (0+a)++V++(A++(Y++b++T)).drop (0+a+V.length)=(A++V)++(b++T):=by
 subst e
 rw[Nat.zero_add,take_left,append_assoc Y b T,<-append_assoc A Y,show A.length+V.length=(A++Y).length by rw[length_append,d,c],List.drop_left]
theorem Z2(a:List Ir)(y e:Ir)(p2:List Ir)(x:Ir)(g c:Nat)(d:List Value)(k r:Nat)(n:List Value)(o:TypeId)(M:Mem)(h:M k=some (cE (Ac x++n) o))(f:x.2.oneCell'=true)(i:∀x∈p2,x.2.oneCell'=true)(B:a.length+2+p2.length<=c)(j:c<=maxLen)(s:d.length=(c-(a.length+2+p2.length))*5)(m:a.length+2+p2.length<=100000)(C:0<p2.length):
  SpecL prog 111 #[.slice (some ⟨g,0,none⟩) (a.length+2+p2.length) c,.int .i64 a.length,.int .i64 ((a.length+2:Nat):Int),.slice (some ⟨k,0,none⟩) 1 r] M [(g,cE (a.flatMap Ac++(Ac y++Ac e++(p2.flatMap Ac++d))) IT)] λu M' z=>Own u z IT 5 (a.length+1+p2.length) ((a++[x]++p2).flatMap Ac):=by
 refine sB func111 ntmps111 ?_;intro W
 refine gh ?_
 refine lq (C6 rfl rfl rfl (.no _) (.of (v:=a.length+2) rfl (by omega) (by omega)) (.of (v:=a.length) rfl (by omega) (by omega)) (by omega) (by simp)) ?_
 refine gt ?_
 refine LL [0,1,2,3,4,5,6,7,8,9,10,11,12] [] ?_
 refine gh ?_
 refine dq rfl (Bc (C6 rfl rfl rfl (.no _) (.of (v:=a.length) rfl (by omega) (by omega)) (.no _) (by omega) (by simp)) (v':=.slice (some ⟨g,0,none⟩) (a.length) (c)) (by rw[AZ];rfl)) ?_
 refine gh ?_
 refine dq rfl (Bc (C6 rfl rfl rfl (.no _) (.no _) (.of (v:=a.length+2) rfl (by omega) (by omega)) (by omega) (by simp)) (v':=.slice (some ⟨g,a.length*5+10,none⟩) (p2.length) (c-(a.length+2))) (by rw[AB (by omega)];exact FR (by omega) (by omega) (by omega))) ?_
 refine gh ?_
 refine lq (QZ rfl rfl rfl) ?_
 refine gt ?_
 refine lq (Bc (C6 rfl rfl rfl (.no _) (.of (v:=a.length+1+p2.length) rfl (by omega) (by omega)) (.no _) (by omega) (by simp)) (v':=.slice (some ⟨g,0,none⟩) (a.length+1+p2.length) c) (by rw[AZ];exact FR rfl (by omega) (by omega))) ?_
 refine gt ?_
 refine lq (Bc (C6 rfl rfl rfl (.no _) (.no _) (.of (v:=a.length) rfl (by omega) (by omega)) (by omega) (by simp)) (v':=.slice (some ⟨g,a.length*5,none⟩) (a.length+1+p2.length-a.length) (c-a.length)) (by rw[AB (by omega)];exact FR (by omega) (by omega) (by omega))) ?_
 refine gh ?_
 refine lh (EO (cs:=Ac x) rfl rfl rfl rfl (by rw[Ad,Nat.min_eq_left (by omega)]) ((SM.of_block_pre h).sj _) (by intro u l;simp only[Ac,mem_cons,not_mem_nil,or_false]at l;rcases l with rfl|rfl|rfl|rfl|rfl<;>first|rfl|exact f) (by simp only[length_append,length_take,length_drop,fl,Ad];omega)) ?_;rintro _ _ _ ⟨rfl,rfl,rfl⟩
 have b:=Zy (a.flatMap Ac) (Ac x) (Ac y) (p2.flatMap Ac++d) (a.length*5) (fl a) rfl rfl (Ac e)
 rw[Nat.zero_add]at b
 rw[b]
 refine gh ?_
 refine LL [0,1,2,3,4,5,6,7,8,109] [] ?_
 refine gh ?_
 refine dq rfl (Bc (C6 rfl rfl rfl (.no _) (.no _) (.of (v:=a.length+1) rfl (by omega) (by omega)) (by omega) (by simp)) (v':=.slice (some ⟨g,a.length*5+5,none⟩) (a.length+1+p2.length-(a.length+1)) (c-(a.length+1))) (by rw[AB (by omega)];exact FR (by omega) (by omega) (by omega))) ?_
 refine gh ?_
 refine dq rfl (Bc (C6 rfl rfl rfl (.no _) (.no _) (.of (v:=a.length+2) rfl (by omega) (by omega)) (by omega) (by simp)) (v':=.slice (some ⟨g,a.length*5+10,none⟩) (p2.length) (c-(a.length+2))) (by rw[AB (by omega)];exact FR (by omega) (by omega) (by omega))) ?_
 refine dh rfl (EO (cs:=p2.flatMap Ac) rfl rfl rfl rfl (by rw[fl,Nat.min_eq_left (by omega)]) (wGn (List.Mem.head _) (by rw[length_append,fl,Ad,Ad])) (BM i) (by simp only[length_append,length_take,length_drop,fl,Ad];omega)) ?_;rintro _ _ _ ⟨rfl,rfl,rfl⟩
 refine⟨MLe.refl _,by simp,?_⟩
 refine gh ?_
 refine lq (Bc (C6 rfl rfl rfl (.no _) (.no _) (.of (v:=a.length+1+p2.length) rfl (by omega) (by omega)) (by omega) (by simp)) (v':=.slice (some ⟨g,(a.length+1+p2.length)*5,none⟩) (1) (c-(a.length+1+p2.length))) (by rw[AB (by omega)];exact FR (by omega) (by omega) (by omega))) ?_
 refine Dz rfl (VD rfl rfl rfl (by decide) (by simp[Value.oneCell']) (by simp only[length_append,length_take,length_drop,fl,Ad];omega)) ?_;rintro _ _ _ ⟨rfl,rfl⟩
 refine Am (jT (Ao (Ah ?_)))
 iterate 2 refine jp rfl ?_
 refine Am (jT (Bs (wLj ?_)))
 refine Gd rfl rfl ?_
 have t:((a.flatMap Ac++Ac x)++(Ac e++(p2.flatMap Ac++d))).take (a.length*5+5)=a.flatMap Ac++Ac x:=by rw[show a.length*5+5=(a.flatMap Ac++Ac x).length by rw[length_append,fl,Ad],take_left]
 rw[flatMap_append,flatMap_append,show [x].flatMap Ac=Ac x by simp]
 exact Q1 t (by simp only[length_append,fl,Ad];omega) (by simp only[length_append,fl,Ad];omega) (by omega) j (by simp only[length_append,length_take,length_drop,fl,Ad];omega) rfl (by simp only[length_append,length_take,length_drop,fl,Ad];omega)
theorem Z3(a:List Ir)(y k:Ir)(x:Ir)(g c:Nat)(h:List Value)(f n:Nat)(l:List Value)(m:TypeId)(M:Mem)(d:M f=some (cE (Ac x++l) m))(b:x.2.oneCell'=true)(s:a.length+2<=c)(e:c<=maxLen)(o:h.length=(c-(a.length+2))*5)(j:a.length+2<=100000):
  SpecL prog 111 #[.slice (some ⟨g,0,none⟩) (a.length+2) c,.int .i64 a.length,.int .i64 ((a.length+2:Nat):Int),.slice (some ⟨f,0,none⟩) 1 n] M [(g,cE (a.flatMap Ac++(Ac y++Ac k++h)) IT)] λu M' r=>Own u r IT 5 (a.length+1) ((a++[x]).flatMap Ac):=by
 refine sB func111 ntmps111 ?_;intro W
 refine gh ?_
 refine lq (C6 rfl rfl rfl (.no _) (.of (v:=a.length+2) rfl (by omega) (by omega)) (.of (v:=a.length) rfl (by omega) (by omega)) (by omega) (by simp)) ?_
 refine gt ?_
 refine lq (Bc (C6 rfl rfl rfl (.no _) (.of (v:=a.length) rfl (by omega) (by omega)) (.no _) (by omega) (by simp)) (v':=.slice (some ⟨g,0,none⟩) (a.length) (c)) (by rw[AZ];rfl)) ?_
 refine gh ?_
 refine lh (Pe (cs:=Ac x) rfl rfl rfl rfl (by rw[Ad]) ((SM.of_block_pre d).sj _) (by intro u i;simp only[Ac,mem_cons,not_mem_nil,or_false]at i;rcases i with rfl|rfl|rfl|rfl|rfl<;>first|rfl|exact b) (by omega) (by simp only[length_append,length_take,length_drop,fl,Ad];omega)) ?_;rintro _ _ _ ⟨rfl,rfl,rfl⟩
 refine gt ?_
 refine lq (Bc (C6 rfl rfl rfl (.no _) (.no _) (.of (v:=a.length+1) rfl (by omega) (by omega)) (by omega) (by simp)) (v':=.slice (some ⟨g,(a.length+1)*5,none⟩) (1) (c-(a.length+1))) (by rw[AB (by omega)];exact FR (by omega) (by omega) (by omega))) ?_
 refine Dz rfl (VD rfl rfl rfl (by decide) (by simp[Value.oneCell']) (by simp only[length_append,length_take,length_drop,fl,Ad];omega)) ?_;rintro _ _ _ ⟨rfl,rfl⟩
 refine Am (jT (Ao (Ah ?_)))
 iterate 2 refine jp rfl ?_
 refine Am (jT (Bs (wLj ?_)))
 refine Gd rfl rfl ?_
 rw[flatMap_append,show [x].flatMap Ac=Ac x by simp]
 exact Q1 (Xk a _) (by rw[fl,Ad];omega) (by rw[fl,Ad];omega) (by omega) e (by simp only[length_append,length_take,length_drop,fl,Ad];omega) rfl (by simp only[length_append,length_take,length_drop,fl,Ad];omega)
theorem KC(ps:List Ir)(i:Nat)(j:i<ps.length)(f:Option Addr)(d:Nat)(R:Lc)(a:Own (.slice f ps.length d) R IT 5 ps.length (ps.flatMap Ac))(e:∀x∈ps,x.2.oneCell'=true)(M:Mem)(k:ps.length<=100000):
  SpecL prog 124 #[.slice f ps.length d,.int .i64 i,.int .i64 ((i+1:Nat):Int)] M R λu _ r=>Own u r IT 5 (ps.length-1) ((ps.take i++ps.drop (i+1)).flatMap Ac):=by
 obtain⟨g,sp,rfl,rfl,s,o,n⟩:=HU a j
 have c:(ps.take i).length=i:=by rw[length_take];omega
 have b:(ps.drop (i+1)).length=ps.length-(i+1):=length_drop
 have m:ps.drop i=ps[i]::ps.drop (i+1):=List.drop_eq_getElem_cons j
 rw[m,flatMap_cons,append_assoc]
 have h:=wNq (ps.take i) ps[i] (ps.drop (i+1)) g d sp M (λx l=>e x (List.mem_of_mem_drop l)) (by omega) o (by rw[c,b,show i+1+(ps.length-(i+1))=ps.length by omega];exact n) (by omega)
 rw[c,b,show i+1+(ps.length-(i+1))=ps.length by omega,show i+(ps.length-(i+1))=ps.length-1 by omega]at h
 exact h
theorem X2(ps:List Ir)(x:Ir)(i:Nat)(F:i+1<ps.length)(t:Option Addr)(k:Nat)(R:Lc)(d:Own (.slice t ps.length k) R IT 5 ps.length (ps.flatMap Ac))(o:∀x∈ps,x.2.oneCell'=true)(j n:Nat)(l:List Value)(m:TypeId)(M:Mem)(c:M j=some (cE (Ac x++l) m))(b:x.2.oneCell'=true)(z:ps.length<=100000):
  SpecL prog 111 #[.slice t ps.length k,.int .i64 i,.int .i64 ((i+2:Nat):Int),.slice (some ⟨j,0,none⟩) 1 n] M R λu _ G=>Own u G IT 5 (ps.length-1) ((ps.take i++[x]++ps.drop (i+2)).flatMap Ac):=by
 obtain⟨g,sp,rfl,rfl,H,C,B⟩:=HU d (i:=i) (by omega)
 have a:(ps.take i).length=i:=by rw[length_take];omega
 have e:(ps.drop (i+2)).length=ps.length-(i+2):=length_drop
 have y:ps.drop i=ps[i]::ps[i+1]::ps.drop (i+2):=by rw[List.drop_eq_getElem_cons (show i<ps.length by omega),List.drop_eq_getElem_cons F]
 rw[y,flatMap_cons,flatMap_cons,<-append_assoc (Ac ps[i]),append_assoc (Ac ps[i]++Ac ps[i+1])]
 clear y
 generalize ps[i]=s
 generalize ps[i+1]=r
 by_cases h:i+2=ps.length
 ·have E:ps.drop (i+2)=[]:=List.drop_eq_nil_of_le (by omega)
  have f:=Z3 (ps.take i) s r x g k sp j n l m M c b (by omega) C (by rw[a,h];exact B) (by omega)
  rw[a]at f
  rw[E,List.flatMap_nil,List.nil_append,List.append_nil,show ps.length-1=i+1 by omega,<-h]
  exact f
 have f:=Z2 (ps.take i) s r (ps.drop (i+2)) x g k sp j n l m M c b (λx D=>o x (List.mem_of_mem_drop D)) (by omega) C (by rw[a,e,show i+2+(ps.length-(i+2))=ps.length by omega];exact B) (by omega) (by omega)
 rw[a,e,show i+2+(ps.length-(i+2))=ps.length by omega,show i+1+(ps.length-(i+2))=ps.length-1 by omega]at f
 exact f
theorem YF(M:Mem):
  SpecL prog 214 #[.slice none 0 0,.int .i64 0] M [] λu M' a=>Own u a IT 5 0 []:=by
 refine sB func214 ntmps214 ?_;intro W
 refine gt ?_
 refine lq (QZ rfl rfl rfl) ?_
 refine gu ?_
 exact Own.nil _ _
theorem VA(n:Nat)(M:Mem)(h:0<n)(f:n<=1000000000):
  SpecL prog 214 #[.slice none 0 0,.int .i64 n] M [] λu M' i=>Own u i IT 5 0 []:=by
 refine sB func214 ntmps214 ?_;intro W
 refine gt ?_
 refine lq (QZ rfl rfl rfl) ?_
 refine gt ?_
 refine lq (QZ rfl rfl rfl) ?_
 refine lq (Bc (C6 rfl rfl rfl (.no _) (.of (v:=0) rfl (by omega) rfl) (.no _) (by omega) (by simp)) (v':=.slice none 0 0) (by rw[AZ])) ?_
 refine gh ?_
 refine lh (YG (n:=n) rfl rfl rfl (by simp[show (n:Int)-(0-0)=n by omega];rfl) (by rfl) h f (by omega)) ?_;rintro _ _ _ ⟨rfl,b,a,e,rfl,rfl,g,d,c⟩
 refine gh ?_
 refine lq (Bc (C6 rfl rfl rfl (.no _) (.of (v:=0) rfl (by omega) rfl) (.no _) (by omega) (by simp)) (v':=.slice (some ⟨b,0,none⟩) 0 a) (by rw[AZ];rfl)) ?_
 refine jp rfl ?_
 refine Am (jT (Ao (Ah ?_)))
 iterate 2 refine jp rfl ?_
 refine Am (jT (Bs ?_))
 refine Gd rfl rfl ?_
 exact⟨rfl,.inr ⟨b,a,e,rfl,rfl,Nat.zero_le _,d,c,by simp⟩⟩
theorem Vz(n:Nat)(M:Mem)(a:n<=1000000000):SpecL prog 214 #[.slice none 0 0,.int .i64 n] M [] λu _ b=>Own u b IT 5 0 []:=by
 rcases Nat.eq_zero_or_pos n with rfl|h
 ·exact YF M
 exact VA n M h a
variable{bs:List (List Ir)}{k:Nat}
theorem JH(h:k<bs.length):(bs.take (k+1)).flatten=(bs.take k).flatten++bs[k]:=by
 rw[List.take_succ_eq_append_getElem h,List.flatten_append];simp
theorem Kv(k:Nat):(bs.take k).flatten.length<=bs.flatten.length:=by
 conv=>rhs;rw[<-List.take_append_drop k bs,List.flatten_append,length_append]
 omega
def RwS(M:Mem)(v:Value)(r:List Ir):Prop:=∃a c,v=.slice a r.length c/\r.length<=c/\SM M a (r.flatMap Ac)
variable{r:List Ir}
theorem RwS.mono{M':Mem}{v:Value}(h:RwS M v r)(b:MLe M M'):RwS M' v r:=by obtain⟨a,c,f,e,d⟩:=h;exact⟨a,c,f,e,d.mono b⟩
variable{ps:List (List Ir×Value)}{sb:Nat}
theorem Wz{f:Nat}(g:∀i u,(ps.map (·.2))[i]? =some u->CM M sb (f+i) u)(hp:ps.map (·.1)=bs)(h:∀p∈ps,RwS M p.2 p.1)(hk:k<bs.length):
  ∃a c,CM M sb (f+k*1) (.slice a bs[k].length c)/\bs[k].length<=c/\SM M a (bs[k].flatMap Ac):=by
 have b:k<ps.length:=by rw[<-hp,length_map]at hk;exact hk
 have d:bs[k]=ps[k].1:=by simp[<-hp]
 obtain⟨a,c,e,l,j⟩:=h ps[k] (getElem_mem b)
 rw[d]
 refine⟨a,c,?_,l,j⟩
 rw[Nat.mul_one]
 exact g k _ (by rw[List.getElem?_map,List.getElem?_eq_getElem b,Option.map_some,e])
theorem Rg(bs:List (List Ir))(a:Option Addr)(c:Nat)(ps:List (List Ir×Value))(M:Mem)(U:bs.length<=c)(hs:SM M a (ps.map (·.2)))(hp:ps.map (·.1)=bs)(F:∀p∈ps,RwS M p.2 p.1)(o:∀r∈bs,∀x∈r,x.2.oneCell'=true)(T:bs.length<=1000)(S:bs.flatten.length<=1000000):
  SpecL prog 183 #[.slice a bs.length c] M [] λu M' P=>Own u P IT 5 bs.flatten.length (bs.flatten.flatMap Ac):=by
 refine sB func183 ntmps183 ?_;intro W
 refine gh ?_
 refine Cz (α:=Nat) (λk=>[(0,.slice a bs.length c),(3,.int .i64 ((bs.take k).flatten.length:Int)),(9,.slice a bs.length c),(10,.int .i64 bs.length),(11,.int .i64 k)]) (λ_=>M) (λ_=>[]) (λk=>k<=bs.length) (λk=>bs.length-k) 0 (Nat.zero_le _) ?_
 rintro k hk
 try dsimp only at hk⊢
 have z:=Kv (bs:=bs) k
 refine gj (λD=>?_) λD=>?_
 ·refine gh ?_
  have b:k<bs.length:=by omega
  obtain⟨sb,I,E,m⟩:=hs.open (by intro e;have:=congrArg length e;rw[length_map,length_nil]at this;have C:=congrArg length hp;rw[length_map]at C;omega)
  subst E
  obtain⟨H,G,i,n,j⟩:=Wz m hp F b
  have g:=congrArg length (JH b)
  rw[length_append]at g
  have y:=Kv (bs:=bs) (k+1)
  refine gh ?_
  refine lq (AE rfl rfl rfl rfl (i.cj _)) ?_
  refine gt ?_
  refine Bw (k+1) (by show k+1<=bs.length;omega) (hk:=(Keep.cons (t:=0) rfl (Keep.ceq (t:=3) rfl (by rw[g];rfl) (Keep.cons (t:=9) rfl (Keep.cons (t:=10) rfl (Keep.cons (t:=11) rfl Keep.nil))))))
 refine gh ?_
 obtain rfl:k=bs.length:=by omega
 rw[List.take_length]
 refine gC (Vz bs.flatten.length M (by omega)) ?_;rintro _ O L l h
 refine gh ?_
 refine Cz (α:=Nat×Lc×Value) (λx=>[(6,x.2.2),(25,.slice a bs.length c),(26,.int .i64 bs.length),(27,.int .i64 x.1)]) (λ_=>O) (λx=>x.2.1) (λx=>x.1<=bs.length/\Own x.2.2 x.2.1 IT 5 (bs.take x.1).flatten.length ((bs.take x.1).flatten.flatMap Ac)) (λx=>bs.length-x.1) (0,L,_) ⟨Nat.zero_le _,by simpa using h⟩ ?_
 rintro⟨k,R,s⟩ ⟨hk,d⟩
 try dsimp only at hk d⊢
 have z:=Kv (bs:=bs) k
 refine gj (λB=>?_) λB=>?_
 ·refine gh ?_
  have b:k<bs.length:=by omega
  obtain⟨sb,I,E,m⟩:=hs.open (by intro e;have:=congrArg length e;rw[length_map,length_nil]at this;have C:=congrArg length hp;rw[length_map]at C;omega)
  subst E
  obtain⟨H,G,i,n,j⟩:=Wz m hp F b
  have g:=congrArg length (JH b)
  rw[length_append]at g
  have y:=Kv (bs:=bs) (k+1)
  refine gh ?_
  refine lq (AE rfl rfl rfl rfl ((i.mono l).cj _)) ?_
  refine gh ?_
  refine lh (Dx (R:=R) (news:=bs[k].flatMap Ac) rfl rfl rfl rfl d (fl _) (j.mono l) (by rfl) (BM (o _ (getElem_mem b))) (by omega) (by omega)) ?_;rintro Q _ _ ⟨rfl,N,rfl,f⟩
  obtain⟨K,J,rfl⟩:=f.form
  refine gh ?_
  refine Bw (k+1,N,.slice K _ J) ⟨by show k+1<=bs.length;omega,?_⟩
  show Own _ _ _ _ (bs.take (k+1)).flatten.length ((bs.take (k+1)).flatten.flatMap Ac)
  rw[JH b,length_append,flatMap_append];exact f
 refine Am (jT (Ao (FM rfl (Kr (wLi (wLi (jBx (jT (Ao (Ah ?_))))))))))
 iterate 2 refine jp rfl ?_
 refine Am (jT (Bs ?_))
 refine Gd rfl rfl ?_
 obtain rfl:k=bs.length:=by omega
 rw[List.take_length]at d;exact d
theorem Rh(c a:List Ir)(e d:Value)(b:Nat)(M:Mem)(k:M b=some (cE [e,d] 133))(m:RwS M e c)(l:RwS M d a)(g:∀x∈c,x.2.oneCell'=true)(f:∀x∈a,x.2.oneCell'=true)(j:c.length+a.length<=1000000):
  SpecL prog 183 #[.slice (some ⟨b,0,none⟩) 2 2] M [] λu _ n=>Own u n IT 5 (c.length+a.length) ((c++a).flatMap Ac):=by
 have:=Rg [c,a] (some ⟨b,0,none⟩) 2 [(c,e),(a,d)] M (Nat.le_refl _) (SM.of_block k) rfl (λp i=>by
  simp only[mem_cons,not_mem_nil,or_false]at i
  rcases i with rfl|rfl
  ·exact m
  ·exact l) (λr h=>by
  simp only[mem_cons,not_mem_nil,or_false]at h
  rcases h with rfl|rfl
  ·exact g
  exact f) (by simp) (by simpa using j)
 simpa using this
theorem bwd(a:Option Addr)(n c:Nat)(M:Mem):
  SpecL prog 125 #[.slice a n c] M [] λu M' g=>∃b,u=.func (.func 182) #[] #[pB b]/\M' b=some (.cells #[.slice a n c] 198 (0,0))/\g=[]:=by
 refine sB func125 ntmps125 ?_;intro W
 refine gh ?_
 refine lh (Bf (cs:=[.slice a n c]) rfl rfl rfl rfl) ?_;rintro _ _ _ ⟨d,rfl,rfl,rfl⟩
 refine gh ?_
 refine AP d (by simp) ?_
 intro h e f
 refine gr ?_
 exact⟨d,rfl,f,rfl⟩
theorem wEw(b:Nat)(a:Option Addr)(c:Nat)(xs:List (Stp×Value))(M:Mem)(F:M b=some (.cells #[.slice a xs.length c] 198 (0,0)))(hs:SM M a (xs.flatMap A0))(P:xs.length<=1000000)(l:Nat)(J B:List ((Stp×Value)×Nat)->Mem->Lc->Prop)(j:Mem)(t:Lc)(u:MLe M j)(G:∀pre y M2 L2,MLe j M2->J pre M2 L2->pre++[y]<+:bw xs 0->DD prog l ((λp:(Stp×Value)×Nat=>[.int .i64 p.2,.agg (A0 p.1).toArray]) y).toArray M2 L2 λv M' L'=>(v=.bool true/\J (pre++[y]) M' L')\/(v=.bool false/\B (pre++[y]) M' L'))(H:J [] j t):
  SpecL prog 182 #[.func (.yield l) #[] #[],pB b] j t λ_ M' L'=>J (bw xs 0) M' L'\/∃pre,pre<+:bw xs 0/\B pre M' L':=by
 have n:∀{M2:Mem}(L:Lc),MLe j M2->CJ M2 L b 0 (.slice a xs.length c):=λL h=>(CM.cj ⟨_,_,_,h _ _ (u _ _ F),rfl⟩ L)
 refine sB func182 ntmps182 ?_;intro W
 refine gh ?_
 refine lq (AE rfl rfl rfl rfl (n _ (MLe.refl _))) ?_
 refine gh ?_
 refine Cz (α:=Int×Mem×Lc) (λx=>[(0,.func (.yield l) #[] #[]),(1,pB b),(3,.int .i64 x.1)]) (λx=>x.2.1) (λx=>x.2.2) (λx=> -1<=x.1/\x.1<xs.length/\MLe j x.2.1/\J (bw xs (x.1+1).toNat) x.2.1 x.2.2) (λx=>(x.1+1).toNat) ((xs.length:Int)-1,j,t) ⟨by show -1<=(xs.length:Int)-1;omega,by show (xs.length:Int)-1<xs.length;omega,MLe.refl _,by show J (bw xs ((xs.length:Int)-1+1).toNat) _ _;rw[show ((xs.length:Int)-1+1).toNat=xs.length by omega,PA];exact H⟩ ?_
 rintro⟨i,K,N⟩ ⟨o,E,d,g⟩
 try dsimp only at o E d g⊢
 refine gj (λr=>?_) λr=>?_
 ·refine gh ?_
  obtain⟨k,rfl⟩:∃k:Nat,i=k:=⟨i.toNat,by omega⟩
  have f:k<xs.length:=by omega
  obtain⟨sb,O,I,C⟩:=hs.open (by intro e;have:=congrArg length e;rw[Aj A0 3 Dc,length_nil]at this;omega)
  subst I
  refine lq (AE rfl rfl rfl rfl (n _ d)) ?_
  refine gh ?_
  refine lq (Bb (cs:=A0 xs[k]) rfl rfl rfl rfl rfl (λi v D=>((Cs A0 3 Dc C (show xs[k]? =some xs[k]by simp[f]) i v D).mono (u.trans d)).cj _)) ?_
  refine lh (Hu rfl rfl rfl rfl (G (bw xs (k+1)) (xs[k],k) K N d (by rwa[show ((k:Int)+1).toNat=k+1 by omega]at g) (by rw[<-Ew xs f];exact C0 xs k))) ?_;rintro _ M' _ ⟨s,z,rfl,m⟩
  rw[<-Ew xs f]at m
  rcases m with⟨rfl,m⟩|⟨rfl,m⟩
  ·refine gh ?_
   refine Bw ((k:Int)-1,M',z) ⟨by show -1<=(k:Int)-1;omega,by show (k:Int)-1<xs.length;omega,d.trans s,by show J (bw xs ((k:Int)-1+1).toNat) _ _;rw[show ((k:Int)-1+1).toNat=k by omega];exact m⟩
  refine gh ?_
  refine AD (L':=z) (by simp) ?_
  refine JV (rs:=[]) rfl .nil ?_
  exact .inr ⟨_,C0 xs k,m⟩
 refine gh ?_
 refine Ug ?_
 refine JV (rs:=[]) rfl .nil ?_
 obtain rfl:i= -1:=by omega
 exact .inl g
theorem wEv(b:Nat)(a:Option Addr)(c:Nat)(xs:List (Stp×Value))(M:Mem)(e:M b=some (.cells #[.slice a xs.length c] 198 (0,0)))(hs:SM M a (xs.flatMap A0))(d:xs.length<=1000000):Iter prog 182 [pB b] M (λp:(Stp×Value)×Nat=>[.int .i64 p.2,.agg (A0 p.1).toArray]) (bw xs 0):=
 λl J k i j f g h=>wEw b a c xs M e hs d l J k i j f g h
set_option maxRecDepth 8000
set_option maxHeartbeats 40000000
section
variable{P:Program}{N:Fs}{F:Fr}{W:World}{X:List Nat}{M0 M:Mem}{L:Lc}{Q:Exit->Act->World->Prop}
theorem MP{i:Exit}{v:Value}{R L2:Lc}{e:TypeId}{c n:Nat}{xs:List Value}(l:Own v R e c n xs)[hp:Pick R L L2](o:∀x∈X,x∈L2.map (·.1))(h:∀M' a b,MLe M M'->v=.slice a n b->n<=b->SM M' a xs->JQ N i F ⟨W,X,M0⟩ M' L2 Q):JQ N i F ⟨W,X,M0⟩ M L Q:=by
 intro a w r k
 have d:=k.perm hp.perm
 have m:∀p∈R,p.1∉X:=λp g j=>by
  have f:=d.nodup
  rw[map_append,List.nodup_append]at f
  exact f.2.2 p.1 (List.mem_map_of_mem g) p.1 (o _ j) rfl
 obtain⟨M',z,b,f,y,u,t,s⟩:=l.freeze m d
 exact h M' z b f y u t a w r s
end
structure WdI(s:Sto)(q:Ky)(lev:Nat)(xs0:List It)(M0:Mem)(x:WyS):Prop where
 rng:8<=x.k/\x.k<256
 nd:Ai s x.k.toNat=some ((x.l:Int),x.xs)
 tr:AV s x.l x.xs
 fd:∃y,Bg s q x.l x.xs=some y
 mle:MLe M0 x.M
 own:Own x.v x.R 201 3 x.ps.length (x.ps.flatMap A0)
 ns:∀p∈x.ps,NS x.M p.2 p.1.xs
 eq:Av s q lev xs0=x.ps.map (·.1)++Av s q x.l x.xs
 len:x.ps.length+x.l=lev
variable{l:Nat}{s:Sto}{xs:List It}{y:It}
theorem Pr{q:Ky}(h:Bg s q (l+1) xs=some y)(f:Bz xs q<xs.length):Bg s q l (kid s xs[Bz xs q])=some y/\(Fl xs q=false->1<=place xs q):=by
 rw[Bg]at h
 unfold Hh at h
 by_cases a:Fl xs q=true
 ·have e:Bz xs q=place xs q:=if_pos a
  have b:=EU a
  rw[if_pos a,List.getElem?_eq_getElem b]at h
  refine⟨?_,λc=>by rw[a]at c;cases c⟩
  simp only[e];exact h
 have e:Bz xs q=place xs q-1:=if_neg a
 rw[if_neg a]at h
 by_cases d:place xs q=0
 ·rw [if_pos d]at h;cases h
 have b:place xs q-1<xs.length:=by omega
 rw[if_neg d,List.getElem?_eq_getElem b]at h
 refine⟨?_,λ_=>by omega⟩
 simp only[e];exact h
theorem YU(s:Sto)(g:Int)(q:Ky)(bv wv nv lw:Value)(c:Nat)(r:List It)(M:Mem)(aw:ST M (.agg #[bv,wv,nv,lw]) s)(hr:8<=g/\g<256)(ap:Aq s)(O:Ai s g.toNat=some ((c:Int),r))(ao:AV s c r)(av:∃y,Bg s q c r=some y):
  SpecL prog 123 #[.agg #[bv,wv,nv,lw],.int .i64 g,.agg (AG q).toArray] M [] λu M' L'=>SS M' u (Av s q c r)/\L'=[]:=by
 have ax:=(Ar O).lev
 refine sB func123 ntmps123 ?_;intro W
 refine gh ?_
 refine lh (Bf (cs:=[bv,wv,nv,lw]) rfl rfl rfl rfl) ?_;rintro _ _ _ ⟨b3,rfl,rfl,rfl⟩
 refine lh (Bf (cs:=[.int .u8 q.kind,.int .u32 q.id,.int .u32 q.off]) rfl rfl rfl rfl) ?_;rintro _ _ _ ⟨b5,rfl,rfl,rfl⟩
 refine gh ?_
 refine Cz (α:=WyS) (λx=>[(3,pB b3),(5,pB b5),(6,x.v),(7,.int .i64 x.k)]) (λx=>x.M) (λx=>x.R++[(b5,cE [.int .u8 q.kind,.int .u32 q.id,.int .u32 q.off] 43),(b3,cE [bv,wv,nv,lw] 32)]) (λx=>WdI s q c r M x) (λx=>x.l) ⟨g,c,r,[],M,[],.slice none 0 0⟩ ⟨hr,O,ao,av,MLe.refl _,Own.nil _ _,λ_ h=>(by cases h),rfl,by show 0+c=c;omega⟩ ?_
 rintro⟨k,l,xs,ps,Mk,Rk,v⟩ hI
 try dsimp only
 obtain⟨ah,o,ad,⟨y9,D⟩,L,f,F,G,ag⟩:=hI
 dsimp only at ah o ad L f F G ag D
 obtain⟨a0,az,am⟩:=f.form
 subst am
 have I:=Ar o
 have ay:=(Ar o).len
 have a1:=(Ar o).lev
 refine gc (Jp s _ k Mk (aw.mono L)) ?_;rintro _ Mn t aq
 obtain⟨sl,rfl,j⟩:=aq.nd (Xt ap ah (Q6 o)) o
 obtain⟨P,H,ai,rfl,au,V,B,Y⟩:=id j
 simp only[List.nil_append]
 refine ga λb8=>?_
 refine lq (qC (Fb _ xs q P H ai Mn au V B Y (by omega))) ?_
 iterate 2 refine jp rfl ?_
 refine Zi rfl (λK=>?_) (λK=>?_)
 ·iterate 2 refine jp rfl ?_
  refine Am (jT (Ao (Ao (Ah ?_))))
  refine lq (Ak rfl rfl rfl rfl rfl) ?_
  refine lq (AE rfl rfl rfl rfl (CJ.loc rfl)) ?_
  refine js rfl (λac=>?_) (λac=>?_)
  ·refine gg ?_
   have C:l≠0:=by omega
   obtain⟨l,rfl⟩:∃l2,l=l2+1:=⟨l-1,by omega⟩
   have X:=FH o (by show (0:Int)<((l+1:Nat):Int);omega)
   have b:=G6 (q:=q) X
   have J:=Pr D b
   have S:Bz xs q=place xs q:=if_pos K
   rw[<-S]
   refine gh ?_
   refine lh (Aa (cs:=[_,_,_]) rfl rfl rfl (by rfl) (by rfl) (by rfl)) ?_;rintro _ _ _ ⟨ae,rfl,rfl,rfl⟩
   have Z:l<6:=by omega
   refine lh (Ba (R:=Rk) (m:=1) (news:=A0 (⟨((l+1:Nat):Int),xs,Bz xs q⟩,.slice P xs.length H)) rfl rfl rfl rfl f rfl (λi v T=>CJ.loc (by rw[<-T];show _[0+i]? =_;rw[Nat.zero_add];rfl)) rfl (by rfl) (by simp[A0,Value.oneCell']) (by omega) (by omega)) ?_;rintro s' _ _ ⟨rfl,N,rfl,a,_⟩
   obtain⟨a4,c4,rfl⟩:=a.form
   refine gt ?_
   obtain⟨sb,so,e0,hx⟩:=V.open (by intro e;have:=congrArg length e;rw[Aj Ac 5 Ad,length_nil]at this;have h2:=congrArg length B;rw[length_map]at h2;omega)
   cases e0
   obtain⟨va,vc,aa,al,ak⟩:=Au hx B Y b
   refine gh ?_
   refine lq (AE rfl rfl rfl rfl ((aa 3 _ rfl).cj _)) ?_
   refine gh ?_
   obtain⟨ys,z,aj,Q⟩:=BA ad (getElem_mem b)
   have n:kid s xs[Bz xs q]=ys:=by unfold kid;rw[z]
   refine Bw ⟨xs[Bz xs q].ref,l,ys,ps++[(⟨((l+1:Nat):Int),xs,Bz xs q⟩,.slice (some ⟨sb,so,none⟩) xs.length H)],Mn,N,.slice a4 (ps.length+1) c4⟩ ⟨by have:=I.ref _ (getElem_mem b);have:=I.up (by omega) _ (getElem_mem b);show 8<=xs[Bz xs q].ref/\xs[Bz xs q].ref<256;omega,z,Q,⟨y9,by rw[<-n];exact J.1⟩,L.trans t,?_,?_,?_,?_⟩ (hs:=λw h=>h.dropAt.dropAt.perm BW)
   ·show Own _ N _ 3 (ps++[_]).length ((ps++[_]).flatMap A0)
    rw[length_append,flatMap_append];simpa using a
   ·intro p d;rcases List.mem_append.1 d with d|d
    ·exact (F p d).mono t
    rw[List.mem_singleton.1 d];exact j
   ·rw [G];show ps.map _++Av s q (l+1) xs=(ps++[_]).map _++_
    rw[Av,List.getElem?_eq_getElem b,map_append,append_assoc];show _++(_::Av s q l (kid s xs[Bz xs q]))=_;rw[n];rfl
   show (ps++[_]).length+l=c;rw[length_append];show ps.length+1+l=c;omega
  refine gg ?_
  refine lh (Aa (cs:=[_,_,_]) rfl rfl rfl (by rfl) (by rfl) (by rfl)) ?_;rintro _ _ _ ⟨ae,rfl,rfl,rfl⟩
  have Z:l<6:=by omega
  refine lh (Ba (R:=Rk) (m:=1) (news:=A0 (⟨((l:Nat):Int),xs,place xs q⟩,.slice P xs.length H)) rfl rfl rfl rfl f rfl (λi v T=>CJ.loc (by rw[<-T];show _[0+i]? =_;rw[Nat.zero_add];rfl)) rfl (by rfl) (by simp[A0,Value.oneCell']) (by omega) (by omega)) ?_;rintro s' _ _ ⟨rfl,N,rfl,a,_⟩
  obtain⟨a4,c4,rfl⟩:=a.form
  refine gt ?_
  refine Cj (R:=N) a (by simp) ?_
  intro Mf af cf E ef ab U;cases ef
  refine gr ?_
  have C:l=0:=by omega
  subst C
  refine⟨?_,rfl⟩
  rw[G]
  refine⟨a4,c4,ps++[(⟨((0:Nat):Int),xs,place xs q⟩,.slice P xs.length H)],?_,?_,?_,?_,?_⟩
  ·rw [length_append,length_map];rfl
  ·rw [length_append,length_map];exact ab
  ·rw [flatMap_append];simpa using U
  ·rw [map_append];rfl
  intro p d;rcases List.mem_append.1 d with d|d
  ·exact (F p d).mono (t.trans E)
  rw[List.mem_singleton.1 d];exact j.mono E
 iterate 2 refine jp rfl ?_
 refine Am (jT (Ao (Ao (Ah ?_))))
 refine lq (Ak rfl rfl rfl rfl rfl) ?_
 refine lq (AE rfl rfl rfl rfl (CJ.loc rfl)) ?_
 refine js rfl (λac=>?_) (λac=>?_)
 ·iterate 4 refine jp rfl ?_
  refine Am (jT (GI rfl ?_))
  have C:l≠0:=by omega
  obtain⟨l,rfl⟩:∃l2,l=l2+1:=⟨l-1,by omega⟩
  have X:=FH o (by show (0:Int)<((l+1:Nat):Int);omega)
  have b:=G6 (q:=q) X
  have J:=Pr D b
  have S:Bz xs q=place xs q-1:=if_neg (by rw[K];decide)
  refine Ah ?_
  refine jp rfl ?_
  refine lq (Bc (qA rfl rfl rfl rfl rfl (by omega)) (v':=.int .i64 ((Bz xs q:Nat):Int)) (congrArg _ (by have:=J.2 K;rw[S];omega))) ?_
  refine gh ?_
  refine lh (Aa (cs:=[_,_,_]) rfl rfl rfl (by rfl) (by rfl) (by rfl)) ?_;rintro _ _ _ ⟨ae,rfl,rfl,rfl⟩
  have Z:l<6:=by omega
  refine lh (Ba (R:=Rk) (m:=1) (news:=A0 (⟨((l+1:Nat):Int),xs,Bz xs q⟩,.slice P xs.length H)) rfl rfl rfl rfl f rfl (λi v T=>CJ.loc (by rw[<-T];show _[0+i]? =_;rw[Nat.zero_add];rfl)) rfl (by rfl) (by simp[A0,Value.oneCell']) (by omega) (by omega)) ?_;rintro s' _ _ ⟨rfl,N,rfl,a,_⟩
  obtain⟨a4,c4,rfl⟩:=a.form
  refine gt ?_
  obtain⟨sb,so,e0,hx⟩:=V.open (by intro e;have:=congrArg length e;rw[Aj Ac 5 Ad,length_nil]at this;have h2:=congrArg length B;rw[length_map]at h2;omega)
  cases e0
  obtain⟨va,vc,aa,al,ak⟩:=Au hx B Y b
  refine gh ?_
  refine lq (AE rfl rfl rfl rfl ((aa 3 _ rfl).cj _)) ?_
  refine gh ?_
  obtain⟨ys,z,aj,Q⟩:=BA ad (getElem_mem b)
  have n:kid s xs[Bz xs q]=ys:=by unfold kid;rw[z]
  refine Bw ⟨xs[Bz xs q].ref,l,ys,ps++[(⟨((l+1:Nat):Int),xs,Bz xs q⟩,.slice (some ⟨sb,so,none⟩) xs.length H)],Mn,N,.slice a4 (ps.length+1) c4⟩ ⟨by have:=I.ref _ (getElem_mem b);have:=I.up (by omega) _ (getElem_mem b);show 8<=xs[Bz xs q].ref/\xs[Bz xs q].ref<256;omega,z,Q,⟨y9,by rw[<-n];exact J.1⟩,L.trans t,?_,?_,?_,?_⟩ (hs:=λw h=>h.dropAt.dropAt.perm BW)
  ·show Own _ N _ 3 (ps++[_]).length ((ps++[_]).flatMap A0)
   rw[length_append,flatMap_append];simpa using a
  ·intro p d;rcases List.mem_append.1 d with d|d
   ·exact (F p d).mono t
   rw[List.mem_singleton.1 d];exact j
  ·rw [G];show ps.map _++Av s q (l+1) xs=(ps++[_]).map _++_
   rw[Av,List.getElem?_eq_getElem b,map_append,append_assoc];show _++(_::Av s q l (kid s xs[Bz xs q]))=_;rw[n];rfl
  show (ps++[_]).length+l=c;rw[length_append];show ps.length+1+l=c;omega
 refine gg ?_
 refine lh (Aa (cs:=[_,_,_]) rfl rfl rfl (by rfl) (by rfl) (by rfl)) ?_;rintro _ _ _ ⟨ae,rfl,rfl,rfl⟩
 have Z:l<6:=by omega
 refine lh (Ba (R:=Rk) (m:=1) (news:=A0 (⟨((l:Nat):Int),xs,place xs q⟩,.slice P xs.length H)) rfl rfl rfl rfl f rfl (λi v T=>CJ.loc (by rw[<-T];show _[0+i]? =_;rw[Nat.zero_add];rfl)) rfl (by rfl) (by simp[A0,Value.oneCell']) (by omega) (by omega)) ?_;rintro s' _ _ ⟨rfl,N,rfl,a,_⟩
 obtain⟨a4,c4,rfl⟩:=a.form
 refine gt ?_
 refine Cj (R:=N) a (by simp) ?_
 intro Mf af cf E ef ab U;cases ef
 refine gr ?_
 have C:l=0:=by omega
 subst C
 refine⟨?_,rfl⟩
 rw[G]
 refine⟨a4,c4,ps++[(⟨((0:Nat):Int),xs,place xs q⟩,.slice P xs.length H)],?_,?_,?_,?_,?_⟩
 ·rw [length_append,length_map];rfl
 ·rw [length_append,length_map];exact ab
 ·rw [flatMap_append];simpa using U
 ·rw [map_append];rfl
 intro p d;rcases List.mem_append.1 d with d|d
 ·exact (F p d).mono (t.trans E)
 rw[List.mem_singleton.1 d];exact j.mono E
variable{M':Mem}{u:Value}
theorem BnPost.kid(h:BnPost s y.ref.toNat u M'):∃lv a c e,u=.tuple #[.agg #[.int .i64 lv,.slice a (kid s y).length c],.int .i64 e]/\NS M' (.slice a (kid s y).length c) (kid s y):=by
 obtain⟨lv,a,n,c,e,g,⟨_,b⟩|⟨_,xs,b,f,d⟩⟩:=h.form
 ·unfold BnPost at h
  rw[b]at h
  have e:Go.Proofs.YtdahhoicackcaaaGreat.kid s y=[]:=by unfold Go.Proofs.YtdahhoicackcaaaGreat.kid;rw[b]
  rw[e]
  exact⟨0,none,0,8,h,NS.nil⟩
 have e:Go.Proofs.YtdahhoicackcaaaGreat.kid s y=xs:=by unfold Go.Proofs.YtdahhoicackcaaaGreat.kid;rw[b]
 rw[e]
 subst f
 exact⟨lv,a,c,_,g,d⟩
def wFi(r:Except Int (Sto×Int))(bb:Nat)(u:Value)(M':Mem)(L':Lc):Prop:=∃at_ e,u=.tuple #[.int .i64 at_,.int .i64 e]/\((e≠0/\r=.error e)\/(e=0/\∃t,r=.ok (t,at_)/\Aq t/\BOwn M' bb L' t))
theorem LF(s:Sto)(lv:Int)(l:List It)(held:Int)(u:Option Addr)(t:Nat)(o:Nat)(M:Mem)(E:Lc)(C:BOwn M o E s)(b:Aq s)(y:NS M (.slice u l.length t) l)(z:∀x∈l,0<=x.key.kind/\x.key.kind<256)(R:held=0\/(8<=held/\held<256)):
  SpecL prog 127 #[pB o,.int .i64 lv,.slice u l.length t,.int .i64 held] M E (wFi (Cb s lv l held) o):=by
 obtain⟨G,F,ps,O,J,H,I,K⟩:=id y
 cases O
 have c:s.now.length=256/\s.last.length=256/\s.waits.length<=4096:=⟨b.2.1.1,b.2.2.1,b.1.2.1⟩
 refine sB func127 ntmps127 ?_;intro W
 refine gh ?_
 refine lh (hC (Ls s lv l u t ps M J H I K z o E C c.1 c.2.1 c.2.2)) ?_;rintro _ Q _ ⟨N,P,rfl,⟨at_,e,rfl,r,n⟩⟩
 refine gj (λg=>?_) λg=>?_
 ·refine gj (λD=>?_) λD=>?_
  ·refine gh ?_
   have f:e=0:=g
   obtain⟨i,j⟩:=n f
   have a:mkE s lv l=0:=r.symm.trans f
   have d:=GE a b.1.2.1
   have h:=Hl b d.1 d.2.2.1 d.2.2.2
   have m:((held.toNat:Nat):Int)=held:=Int.toNat_of_nonneg (by omega)
   refine gC (by have:=Gc (mkS s lv l) held.toNat o (by rw[h.2.1.1];omega) Q P j;rwa[m]at this) ?_;rintro _ T S L ⟨rfl,B⟩
   refine jp rfl ?_
   refine Am (jT (Ao (Ah ?_)))
   iterate 4 refine jp rfl ?_
   refine Am (jT (Bs ?_))
   refine wFo rfl rfl rfl ?_
   refine⟨at_,looseE (mkS s lv l) held.toNat,rfl,?_⟩
   by_cases k:looseE (mkS s lv l) held.toNat=0
   ·refine .inr ⟨k,_,?_,?_,by simpa using B k⟩
    ·unfold Cb;rw[if_pos a,if_pos (by omega),if_pos k,i]
    exact CY h (by omega)
   refine .inl ⟨k,?_⟩
   unfold Cb;rw[if_pos a,if_pos (by omega),if_neg k]
  refine jp rfl ?_
  refine Am (jT (FM rfl (D0 (jT (Ao (Ah ?_))))))
  iterate 4 refine jp rfl ?_
  refine Am (jT (Bs ?_))
  refine wFo rfl rfl rfl ?_
  have f:e=0:=g
  obtain⟨i,j⟩:=n f
  have a:mkE s lv l=0:=r.symm.trans f
  have d:=GE a b.1.2.1
  have h:=Hl b d.1 d.2.2.1 d.2.2.2
  refine⟨at_,e,rfl,.inr ⟨f,mkS s lv l,?_,h,by simpa using j⟩⟩
  unfold Cb;rw[if_pos a,if_neg (by omega),i]
 iterate 4 refine jp rfl ?_
 refine Am (jT (FM rfl (D0 (jT (Ao (Ah ?_))))))
 iterate 4 refine jp rfl ?_
 refine Am (jT (Bs ?_))
 refine wFo rfl rfl rfl ?_
 refine⟨at_,e,rfl,.inl ⟨g,?_⟩⟩
 unfold Cb;rw[if_neg (by rw[<-r];exact g),<-r]
structure LwS where
 n:Nat
 t:Sto
 r:Int
 l:Nat
 xs:List It
 M:Mem
 L:Lc
structure LwI(bb:Nat)(n0:Nat)(s:Sto)(r0:Int)(x:LwS):Prop where
 rng:8<=x.r/\x.r<256
 ok:Aq x.t
 bo:BOwn x.M bb x.L x.t
 nd:Ai x.t x.r.toNat=some ((x.l:Int),x.xs)
 lev:Lev x.t x.l x.xs
 eq:Ds n0 s r0=Ds x.n x.t x.r
 lt:x.l<x.n
variable{k:Nat}{lv:Int}
theorem BnPost.nd(h:BnPost s k u M')(b:Ai s k=some (lv,xs)):∃a c,u=.tuple #[.agg #[.int .i64 lv,.slice a xs.length c],.int .i64 0]/\NS M' (.slice a xs.length c) xs:=by
 obtain⟨f,a,n,c,e,j,⟨_,d⟩|⟨l,m,d,i,g⟩⟩:=h.form
 ·rw [d]at b;cases b
 rw[d]at b;cases b;subst i;subst l;exact⟨a,c,j,g⟩
variable{n:Nat}{r:Int}{t:Sto}
theorem wBg(a:Ai t r.toNat=some (((0:Nat):Int),xs))(b:0<n):Ds n t r=.ok (t,r):=by
 obtain⟨n,rfl⟩:∃m,n=m+1:=⟨n-1,by omega⟩
 rw[Ds,a];exact if_pos rfl
theorem wBh(a:Ai t r.toNat=some ((l:Int),xs))(e:0<n)(c:¬(xs.length:Int)=1):Ds n t r=.ok (t,r):=by
 obtain⟨n,rfl⟩:∃m,n=m+1:=⟨n-1,by omega⟩
 rw[Ds,a]
 by_cases b:(l:Int)=0
 ·exact if_pos b
 refine(if_neg b).trans ?_
 rcases xs with _|⟨x,_|⟨y,d⟩⟩
 ·rfl
 ·exact absurd rfl c
 rfl
theorem wJa{x:It}(a:Ai t r.toNat=some ((l:Int),[x]))(b:¬(l:Int)=0):Ds (n+1) t r=if shareE t x.ref.toNat=0 then (match leave (AQ t x.ref.toNat) r with
  |none=>.error 8
  |some u=>Ds n u x.ref)else .error (shareE t x.ref.toNat):=by rw[Ds,a];exact if_neg b
theorem Vf(s:Sto)(B:Int)(T S:Nat)(z:List It)(y:Nat)(M:Mem)(Lb:Lc)(aj:BOwn M y Lb s)(X:Aq s)(Y:8<=B/\B<256)(I:Ai s B.toNat=some ((T:Int),z))(ah:Lev s T z)(ab:T<S):
  SpecL prog 128 #[pB y,.int .i64 B] M Lb (wFi (Ds S s B) y):=by
 refine HM (vs:=[_,_]) 50 _ func128 rfl ntmps128 rfl rfl ?_;intro W
 refine gh ?_
 refine Cz (α:=LwS) (λx=>[(0,pB y),(1,.int .i64 x.r)]) (λx=>x.M) (λx=>x.L) (λx=>LwI y S s B x) (λx=>x.l) ⟨S,s,B,T,z,M,Lb⟩ ⟨Y,X,aj,I,ah,rfl,ab⟩ ?_
 rintro⟨n,t,r,l,xs,Mk,U⟩ hI
 try dsimp only
 obtain⟨D,b,i,a,Q,c,R⟩:=hI
 dsimp only at D b i a Q c R
 have H:=Ar a
 refine gC (by have:=Lr t r.toNat y (by omega) b Mk U i;rwa[show ((r.toNat:Nat):Int)=r by omega]at this) ?_;rintro _ Mn av C ⟨af,ag⟩
 rw[ag]
 obtain⟨na,nc,rfl,Z⟩:=af.nd a
 refine gA λb6=>?_
 refine gt ?_
 refine gj (λP=>?_) λP=>?_
 ·refine gh ?_
  refine AD (L':=U) (by simp) ?_
  refine wFo rfl rfl rfl ?_
  have o:l=0:=by omega
  subst o
  refine⟨r,0,rfl,.inr ⟨rfl,t,?_,b,i.mono C⟩⟩
  rw[c];exact wBg a R
 iterate 2 refine jp rfl ?_
 refine lq (Ak rfl rfl rfl rfl rfl) ?_
 refine lq (AE rfl rfl rfl rfl (CJ.loc rfl)) ?_
 refine lq (KZ rfl rfl rfl) ?_
 refine js rfl (λO=>?_) (λO=>?_)
 ·refine jp rfl ?_
  refine Am (jT (GI rfl (Ao (Ah ?_))))
  iterate 4 refine jp rfl ?_
  refine Am (jT (Bs (wLj (jBr (wLj (jBr ?_))))))
  refine AD (L':=U) (by simp) ?_
  refine wFo rfl rfl rfl ?_
  refine⟨r,0,rfl,.inr ⟨rfl,t,?_,b,i.mono C⟩⟩
  rw[c];exact wBh a (by omega) O
 refine gg ?_
 have ad:xs.length=1:=by omega
 obtain⟨x,rfl⟩:=List.length_eq_one_iff.1 ad
 obtain⟨al,ap,F,G,aa⟩:∃ps:List Ir,[x].length<=nc/\SM Mn na (ps.flatMap Ac)/\ps.map (·.1)=[x]/\∀p∈ps,BS Mn p.2 p.1.val:=by obtain⟨_,_,ps,e,h1,h2,h3,h4⟩:=Z;cases e;exact⟨ps,h1,h2,h3,h4⟩
 obtain⟨sb,so,e0,hx⟩:=F.open (by intro e;have:=congrArg length e;rw[Aj Ac 5 Ad,length_nil]at this;have h2:=congrArg length G;rw[length_map,List.length_singleton]at h2;omega)
 cases e0
 obtain⟨va,vc,ae,ao,am⟩:=Au hx G aa (k:=0) (by simp)
 obtain⟨l,rfl⟩:∃l2,l=l2+1:=⟨l-1,by omega⟩
 obtain⟨ys,j,V⟩:=Q x (by simp)
 have hb:8<=x.ref/\x.ref<256:=by have:=H.ref x (by simp);have:=H.up (by omega) x (by simp);omega
 obtain⟨n,rfl⟩:∃m,n=m+1:=⟨n-1,by omega⟩
 rw[wJa a P]at c
 refine lq (Ca rfl rfl rfl rfl (by simp)) ?_
 refine gg ?_
 refine lq (AE rfl rfl rfl rfl ((ae 3 _ rfl).cj _)) ?_
 refine gC (by have:=P0 t x.ref.toNat y (by rw[b.2.1.1];omega) Mn U (i.mono C);rwa[show ((x.ref.toNat:Nat):Int)=x.ref by omega]at this) ?_;rintro _ Ms R2 aq ⟨rfl,ai⟩
 refine jp rfl ?_
 refine Am (jT (Ao (Ah ?_)))
 refine jp rfl ?_
 refine js rfl (λu=>?_) (λu=>?_)
 ·refine gg ?_
  refine AD (L':=R2) (by simp) ?_
  refine wFo rfl rfl rfl ?_
  refine⟨0,shareE t x.ref.toNat,rfl,.inl ⟨u,?_⟩⟩
  rw[c];exact if_neg u
 refine gh ?_
 have g:shareE t x.ref.toNat=0:=Classical.not_not.1 u
 obtain⟨u9,f,ak,d,_⟩:=Yt b D hb a j g
 refine gC (GG (AQ t x.ref.toNat) r D (HO b (by omega)) y Ms R2 (ai g)) ?_;rintro _ Ml R3 au ac
 obtain⟨e,rfl,J⟩:=LvPost.form ac
 obtain⟨_,o⟩|⟨rfl,u8,K,E,N⟩:=J
 ·rw [f]at o;cases o
 rw[f]at K;cases K
 refine jp rfl ?_
 refine Am (jT (Ao (Ah ?_)))
 refine jp rfl ?_
 refine jf rfl (decide_eq_false (by omega)) ?_
 refine Am (jT (FM rfl (D0 (jT (Ah ?_)))))
 iterate 2 refine jp rfl ?_
 refine Am (jB ?_)
 rw[if_pos g,f]at c
 refine Bw ⟨n,u9,x.ref,l,ys,Ml,R3⟩ ⟨hb,E,N,?_,WV a d (show (l:Int)<=((l+1:Nat):Int)by omega) V,c,by show l<n;omega⟩ (hs:=λw h=>h.dropAt.perm BW)
 show Ai u9 x.ref.toNat=_
 rw[d _ (λe=>by rw[e,a]at j;cases j)];exact j
theorem LN(c a:List Ir)(e d:Value)(b:Nat)(M:Mem)(o:RwS M e c)(n:RwS M d a)(h:∀x∈c,x.2.oneCell'=true)(g:∀x∈a,x.2.oneCell'=true)(m:c.length+a.length<=1000000):
  SpecL prog 183 #[.slice (some ⟨b,0,none⟩) 2 2] M [(b,cE [e,d] 133)] λu M' f=>∃k,f=[(b,cE [e,d] 133)]++k/\Own u k IT 5 (c.length+a.length) ((c++a).flatMap Ac):=by
 have:=SpecL.lend (R:=[(b,cE [e,d] 133)]) (L:=[]) (post:=λu M' f=>Own u f IT 5 (c.length+a.length) ((c++a).flatMap Ac)) (λi j=>Rh c a e d b (Gq M [(b,cE [e,d] 133)]) (GT i (p:=(b,_)) (by simp)) (o.mono (MY j)) (n.mono (MY j)) h g m)
 rw[List.append_nil]at this
 refine this.mono ?_
 rintro u M' f ⟨s,r,l,rfl,_⟩
 exact⟨r,rfl,l⟩
def wPf(s:Sto)(w:Stp)(l:List It)(Lb:Lc)(u:Value)(M':Mem)(L':Lc):Prop:=∃a c,u=.tuple #[.slice a (AA s w l).1.length c,.agg #[.int .i64 ((AA s w l).2.1:Int),.int .i64 ((AA s w l).2.2:Int)]]/\NS M' (.slice a (AA s w l).1.length c) (AA s w l).1/\L'=Lb
variable{M:Mem}{a:Option Addr}{c:Nat}
theorem ZP(h:NS M (.slice a xs.length c) xs):∃ps:List Ir,ps.map (·.1)=xs/\RwS M (.slice a xs.length c) ps/\(∀p∈ps,BS M p.2 p.1.val):=by
 obtain⟨k,j,ps,e,i,g,d,f⟩:=h
 cases e
 have b:ps.length=xs.length:=by rw[<-d,length_map]
 exact⟨ps,d,⟨a,c,by rw[b],by rw[b];exact i,g⟩,f⟩
theorem wJe(s:Sto)(y:It):(kid s y).length<=5:=by
 unfold kid
 split
 ·rename_i lv a h;exact(Ar h).len
 exact Nat.zero_le _
theorem WY{w:Stp}{l:List It}(h:nxt w=none):AA s w l=(l,w.at_,1):=by unfold AA;rw[h]
theorem Ti{w:Stp}{l:List It}{p:Nat}(h:nxt w=some p)(hp:p<w.xs.length):AA s w l=if 5<(kid s w.xs[p]).length+l.length then (l,w.at_,1)else if p<w.at_ then (kid s w.xs[p]++l,p,2)else (l++kid s w.xs[p],w.at_,2):=by unfold AA;rw[h];simp only[List.getElem?_eq_getElem hp]
theorem Yx(s:Sto)(w:Stp)(l:List It)(O:Option Addr)(E:Nat)(G:Option Addr)(F:Nat)(P:Nat)(M:Mem)(r:Lc)(ae:BOwn M P r s)(U:Aq s)(V:NS M (.slice O w.xs.length E) w.xs)(y:NS M (.slice G l.length F) l)(a0:w.at_<w.xs.length)(ap:w.xs.length<=5)(ay:l.length<=100)(T:∀x∈w.xs,8<=x.ref/\x.ref<256):
  SpecL prog 126 #[pB P,.agg #[.int .i64 w.lv,.slice O w.xs.length E,.int .i64 w.at_],.slice G l.length F] M r (wPf s w l r):=by
 refine sB func126 ntmps126 ?_;intro W
 refine gh ?_
 refine lh (Bf (cs:=[.int .i64 w.lv,.slice O w.xs.length E,.int .i64 w.at_]) rfl rfl rfl rfl) ?_;rintro _ _ _ ⟨b4,rfl,rfl,rfl⟩
 refine jp rfl ?_
 refine lh (AM rfl rfl) ?_;rintro _ _ _ ⟨b7,rfl,rfl,rfl⟩
 refine Am (jT (Ao (Ah ?_)))
 refine lq (Ak rfl rfl rfl rfl rfl) ?_
 refine lq (AE rfl rfl rfl rfl (CJ.loc rfl)) ?_
 refine lq (Bk (cs:=[_,_]) rfl rfl rfl (by rfl)) ?_
 refine lh (AM rfl rfl) ?_;rintro _ _ _ ⟨Q,rfl,rfl,rfl⟩
 refine Dz rfl (Ae rfl rfl rfl rfl rfl rfl rfl rfl) ?_;rintro _ _ _ ⟨rfl,rfl⟩
 refine Am (jT (Ao (Ah ?_)))
 refine lq (Ak rfl rfl rfl rfl rfl) ?_
 refine lq (AE rfl rfl rfl rfl (CJ.loc rfl)) ?_
 refine ja rfl (by omega) ?_
 refine jp rfl ?_
 refine Am (jT ?_)
 refine Du (α:=Int) (λp=>[(0,pB P),(2,.slice G l.length F),(4,pB b4),(6,.slice none 0 0),(7,pB b7),(8,pB Q),(9,.int .i64 p)]) (λ_=>M) (λ_=>(Q,cE [.int .i64 w.at_,.int .i64 1] 207)::(b7,cE [.int .i64 0,.int .i64 0] 207)::(b4,cE [.int .i64 w.lv,.slice O w.xs.length E,.int .i64 w.at_] 201)::r) (λp=>(nxt w=none/\p= -1)\/∃k:Nat,nxt w=some k/\p=(k:Int)/\k<w.xs.length) ?_ ?_
 ·rintro p c
  try dsimp only at c⊢
  refine Ao (Ao (Ah ?_))
  refine jp rfl ?_
  refine js rfl (λai=>?_) (λai=>?_)
  ·refine Am (jT (GI rfl (Ao ?_)))
   refine LL [0,1,2,103] [(Q,cE [.int .i64 w.at_,.int .i64 1] 207)] ?_
   refine dp rfl rfl ?_
   refine dq rfl (Gz rfl rfl rfl rfl rfl) ?_
   refine dp rfl rfl ?_
   refine Df rfl rfl (Ae rfl rfl rfl rfl rfl rfl rfl rfl) ?_;rintro _ _ _ ⟨rfl,rfl⟩
   refine⟨_,_,MLe.refl _,(by first|exact MLe.refl _|exact a),λ_ h=>h,by simp,?_⟩
   refine gh ?_
   refine zd (r) rfl ?_
   obtain⟨hn,_⟩|⟨k,_,rfl,_⟩:=c
   rotate_left
   ·exfalso;omega
   have d:=WY (s:=s) (l:=l) hn
   refine⟨G,F,?_,?_,rfl⟩
   ·rw [d];rfl
   rw[d];exact y
  refine gh ?_
  obtain⟨_,aw⟩|⟨k,Y,rfl,hk⟩:=c
  ·exfalso;omega
  obtain⟨a2,c2,ao,e,ax,X,H,Z⟩:=id V
  cases e
  obtain⟨sb,so,e0,hx⟩:=X.open (by intro e;have:=congrArg length e;rw[Aj Ac 5 Ad,length_nil]at this;have h2:=congrArg length H;rw[length_map]at h2;omega)
  cases e0
  obtain⟨va,vc,ab,au,aq⟩:=Au hx H Z hk
  have av:=T _ (getElem_mem hk)
  refine gh ?_
  refine lq (AE rfl rfl rfl rfl ((ab 3 _ rfl).cj _)) ?_
  refine gC (by have:=Lr s w.xs[k].ref.toNat P (by omega) U M r ae;rwa[show ((w.xs[k].ref.toNat:Nat):Int)=w.xs[k].ref by omega]at this) ?_;rintro _ Mn a1 K ⟨ac,ad⟩
  rw[ad]
  obtain⟨S,ka,kc,ke,rfl,aa⟩:=ac.kid
  obtain⟨g,B,J,o⟩:=ZP aa
  obtain⟨f,z,I,m⟩:=ZP (y.mono K)
  have n:g.length=(kid s w.xs[k]).length:=by rw[<-B,length_map]
  have j:f.length=l.length:=by rw[<-z,length_map]
  have az:=wJe s w.xs[k]
  have d:=Ti (s:=s) (l:=l) Y hk
  refine gA λam=>?_
  refine gj (λah=>?_) λah=>?_
  ·refine gh ?_
   refine LL [0,1,2,103] [(Q,cE [.int .i64 w.at_,.int .i64 1] 207)] ?_
   refine dp rfl rfl ?_
   refine dq rfl (Gz rfl rfl rfl rfl rfl) ?_
   refine dp rfl rfl ?_
   refine Df rfl rfl (Ae rfl rfl rfl rfl rfl rfl rfl rfl) ?_;rintro _ _ _ ⟨rfl,rfl⟩
   refine⟨_,_,MLe.refl _,(by first|exact MLe.refl _|exact a),λ_ h=>h,by simp,?_⟩
   refine gh ?_
   refine zd (r) rfl ?_
   rw[if_pos (by omega)]at d
   refine⟨G,F,?_,?_,rfl⟩
   ·rw [d];rfl
   rw[d];exact y.mono K
  refine gj (λag=>?_) λag=>?_
  ·refine gh ?_
   refine lh (Aa (cs:=[_,_]) rfl rfl rfl (by rfl) (by rfl) (by rfl)) ?_;rintro _ _ _ ⟨al,rfl,rfl,rfl⟩
   refine gC (LN g f _ _ al Mn J I (Dl o) (Dl m) (by omega)) ?_;rintro _ Mc R2 a ⟨R3,rfl,b⟩
   obtain⟨N,L,C⟩:=b.form
   subst C
   rw[List.singleton_append,List.cons_append]
   refine gh ?_
   refine MP (R:=R3) b (by simp +contextual) ?_
   intro Mf af cf i ef D u;cases ef
   refine zd (r) rfl ?_
   rw[if_neg (by omega),if_pos (by omega)]at d
   refine⟨N,L,?_,?_,rfl⟩
   ·rw [d];simp only[length_append,n,j];rfl
   rw[d];refine⟨N,L,g++f,rfl,?_,u,by rw[map_append,B,z],λp c=>?_⟩
   ·simp only[length_append,<-n,<-j];exact D
   rcases List.mem_append.1 c with c|c
   ·exact (o p c).mono (a.trans i)
   exact(m p c).mono (a.trans i)
  refine gh ?_
  refine LL [0,1,2,5,6,7,103,104,8,109] [(am,cE [.int .i64 S,.slice ka (kid s w.xs[k]).length kc] 135),(b4,cE [.int .i64 w.lv,.slice (some ⟨sb,so,none⟩) w.xs.length E,.int .i64 w.at_] 201)] ?_
  refine gh ?_
  refine DA rfl rfl rfl (Aa (cs:=[_,_]) rfl rfl rfl (by rfl) (by rfl) (by rfl)) ?_;rintro _ _ _ ⟨ak,rfl,rfl,rfl⟩
  refine Cp (MLe.refl _) (λ_ h=>List.mem_cons_of_mem _ h) (by first|exact MLe.refl _|assumption) (by simp) ?_
  refine dh rfl (hC (LN f g _ _ ak Mn I J (Dl m) (Dl o) (by omega))) ?_;rintro _ Mc _ ⟨a,R2,rfl,⟨R3,rfl,b⟩⟩
  refine⟨a,by simp,?_⟩
  obtain⟨N,L,C⟩:=b.form
  subst C
  rw[List.singleton_append,List.cons_append]
  refine dp rfl rfl ?_
  refine Df rfl rfl (Ae rfl rfl rfl rfl rfl rfl rfl rfl) ?_;rintro _ _ _ ⟨rfl,rfl⟩
  refine⟨_,_,MLe.refl _,(by first|exact MLe.refl _|exact a),λ_ h=>h,by simp,?_⟩
  refine gh ?_
  refine MP (R:=R3) b (by simp +contextual) ?_
  intro Mf af cf i ef D u;cases ef
  refine zd (r) rfl ?_
  rw[if_neg (by omega),if_neg (by omega)]at d
  refine⟨N,L,?_,?_,rfl⟩
  ·rw [d];simp only[length_append,n,j];rfl
  rw[d];refine⟨N,L,f++g,rfl,?_,u,by rw[map_append,B,z],λp c=>?_⟩
  ·simp only[length_append,<-n,<-j];exact D
  rcases List.mem_append.1 c with c|c
  ·exact (m p c).mono (a.trans i)
  exact(o p c).mono (a.trans i)
 refine gj (λaj=>?_) λaj=>?_
 ·refine gh ?_
  refine AS ((w.at_:Int)-1) (Keep.cons (t:=0) rfl (Keep.cons (t:=2) rfl (Keep.cons (t:=4) rfl (Keep.cons (t:=6) rfl (Keep.cons (t:=7) rfl (Keep.cons (t:=8) rfl (Keep.cons (t:=9) rfl Keep.nil))))))) ?_ (λw h=>h)
  by_cases h0:w.at_=0
  ·exact .inl ⟨by unfold nxt;rw[if_pos (by omega),if_pos h0],by omega⟩
  exact .inr ⟨w.at_-1,by unfold nxt;rw[if_pos (by omega),if_neg h0],by omega,by omega⟩
 refine gh ?_
 refine AS ((w.at_:Int)+1) (Keep.cons (t:=0) rfl (Keep.cons (t:=2) rfl (Keep.cons (t:=4) rfl (Keep.cons (t:=6) rfl (Keep.cons (t:=7) rfl (Keep.cons (t:=8) rfl (Keep.cons (t:=9) rfl Keep.nil))))))) ?_ (λw h=>h)
 exact .inr ⟨w.at_+1,by unfold nxt;rw[if_neg (by omega)],by omega,by omega⟩
end Go.Proofs.YtdahhoicackcaaaGreat
