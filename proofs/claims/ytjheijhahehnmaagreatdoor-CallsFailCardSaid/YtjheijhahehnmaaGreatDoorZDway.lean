/- Walks: del's way, join, Dj, lower. No statement of the seat is proved here. -/
import Derived.Test.YtjheijhahehnmaaGreatDoorZHn
import Derived.Test.YtjheijhahehnmaaGreatDoorZPar
import Derived.Test.YtjheijhahehnmaaGreatDoorZDelg
namespace Go.Proofs.YtjheijhahehnmaaGreatDoor
open Go.Proofs.Tryz
open List (length_append take_left append_assoc length_take length_drop flatMap_append mem_cons not_mem_nil flatMap_cons length_map getElem_mem length length_nil map_append)
set_option linter.unusedSimpArgs false
set_option linter.unusedVariables false
set_option linter.unusedSectionVars false
set_option maxHeartbeats 40000000
set_option maxRecDepth 8000
open Go.RowKit
variable{a g:Nat}
theorem Gq{b n n' c d:Nat}(h:a=b)(f:n=n')(e:c=d):Value.slice (some ⟨g,a,none⟩) n c=Value.slice (some ⟨g,b,none⟩) n' d:=by subst h;subst f;subst e;rfl
variable{A l:List Value}{off:Nat}
theorem wHr{B X Z Y:List Value}(c:l.take a=A)(b:off=A.length+B.length):(l.take a++B++X).take off++Z++Y=(A++B)++(Z++Y):=by
 subst b;rw[c,show A.length+B.length=(A++B).length by rw[length_append],take_left,append_assoc]
variable{e:TypeId}
theorem T3{n b:Nat}{B Z:List Value}(h:l.take a=A)(c:off=A.length+B.length)(f:A.length+B.length=n*5)(k:n+1<=b)(d:b<=maxLen)(j:l.length=b*5)(m:Z.length=5)(i:a+B.length<=l.length):
  Own (.slice (some ⟨g,0,none⟩) n b) [(g,cE ((l.take a++B++l.drop (a+B.length)).take off++Z++(l.take a++B++l.drop (a+B.length)).drop (off+Z.length)) e)] e 5 n (A++B):=by
 refine Hg (wHr h c) (by rw[length_append];exact f) (by omega) d ?_;simp only[length_append,length_take,length_drop];omega
variable{L:Lc}{M:Mem}{sp:List Value}{y:Ir}
theorem wYf{c:Nat}{a p2:List Ir}(b:(g,cE (a.flatMap Ae++(Ae y++(p2.flatMap Ae++sp))) e)∈L)(d:a.length+1+p2.length<=c):SJ M L (HE (some ⟨g,0,none⟩) (a.length+1) c 5) (p2.flatMap Ae):=by
 cases p2 with
 |nil=>exact .inl rfl
 |cons z zs=>
  rw[List.length_cons]at d
  rw[AH (by omega)]
  exact LA b (by rw[fl];show 0+(a.length+1)*5=a.length*5+5;omega)
theorem wCb(a:List Ir)(Y:List Value):(a.flatMap Ae++Y).take (0+a.length*5)=a.flatMap Ae:=by rw[Nat.zero_add,<-fl a,take_left]
theorem UJ(a:List Ir)(y:Ir)(p2:List Ir)(g c:Nat)(e:List Value)(M:Mem)(b:∀x∈p2,x.2.oneCell'=true)(i:a.length+1+p2.length<=c)(d:c<=maxLen)(h:e.length=(c-(a.length+1+p2.length))*5)(f:a.length+1+p2.length<=100000):
  SpecL prog 273 #[.slice (some ⟨g,0,none⟩) (a.length+1+p2.length) c,.int .i64 a.length,.int .i64 ((a.length+1:Nat):Int)] M [(g,cE (a.flatMap Ae++(Ae y++(p2.flatMap Ae++e))) IT)] λu M' j=>Own u j IT 5 (a.length+p2.length) ((a++p2).flatMap Ae):=by
 refine sB func273 ntmps273 ?_;intro W;refine gh ?_;refine lq (Bh (CL rfl rfl rfl (.of (v:=a.length+1+p2.length) rfl (by omega) (by omega)) (.of (v:=a.length+1) rfl (by omega) (by omega)) (.of (v:=a.length) rfl (by omega) (by omega)) (by omega) (by simp)) (v':=.slice (some ⟨g,a.length*5,none⟩) (1) (a.length+1+p2.length-a.length)) (by rw[AH (by omega)];exact Gq (by omega) (by omega) (by omega))) ?_;refine gt ?_;refine D7 [0,1,2,3,4,5,106,7] [] ?_;refine gh ?_;refine dq rfl (Bh (CL rfl rfl rfl (.no _) (.of (v:=a.length) rfl (by omega) (by omega)) (.no _) (by omega) (by simp)) (v':=.slice (some ⟨g,0,none⟩) (a.length) (c)) (by rw[AU];rfl)) ?_;refine gh ?_;refine dq rfl (CL rfl rfl rfl (.no _) (.no _) (.of (v:=a.length+1) rfl (by omega) (by omega)) (by omega) (by simp)) ?_;refine dh rfl (QZ (cs:=p2.flatMap Ae) rfl rfl rfl rfl (by rw[fl];congr 1;omega) (wYf (List.Mem.head _) i) (B2 b) (by omega) (by simp only[length_append,length_take,length_drop,fl,Ag];omega)) ?_;rintro _ _ _ ⟨rfl,rfl,rfl⟩;refine⟨MLe.refl _,by simp,?_⟩;refine gh ?_;refine lq (Bh (CL rfl rfl rfl (.no _) (.of (v:=a.length+1+p2.length) rfl (by omega) (by omega)) (.of (v:=a.length+(a.length+1+p2.length-(a.length+1))) rfl (by omega) (by omega)) (by omega) (by simp)) (v':=.slice (some ⟨g,(a.length+p2.length)*5,none⟩) (1) (c-(a.length+p2.length))) (by rw[AH (by omega)];exact Gq (by omega) (by omega) (by omega))) ?_;refine DE rfl (Zd rfl rfl rfl (by decide) (by simp[Value.oneCell']) (by simp only[length_append,length_take,length_drop,fl,Ag];omega)) ?_;rintro _ _ _ ⟨rfl,rfl⟩;refine Ai (jT (Ah (Af ?_)));iterate 2 refine jp rfl ?_
 refine Ai (jT (Bq ?_));refine FX rfl rfl ?_;rw[show a.length+(a.length+1+p2.length-(a.length+1))=a.length+p2.length by omega,flatMap_append];exact T3 (wCb a _) (by rw[fl,fl];omega) (by rw[fl,fl];omega) (by omega) d (by simp only[length_append,length_take,length_drop,fl,Ag];omega) rfl (by simp only[length_append,length_take,length_drop,fl,Ag];omega)
theorem wTb{Y B:List Value}(b:(g,cE (A++(Y++(B++sp))) e)∈L)(a:off=A.length+Y.length):SJ M L (some ⟨g,off,none⟩) B:=LA b a
theorem wKa(A V Y T:List Value)(a:Nat)(e:A.length=a)(d:V.length=5)(c:Y.length=5)(b:List Value):(A++(Y++b++T)).take (0+a)++V++(A++(Y++b++T)).drop (0+a+V.length)=(A++V)++(b++T):=by
 subst e;rw[Nat.zero_add,take_left,append_assoc Y b T,<-append_assoc A Y,show A.length+V.length=(A++Y).length by rw[length_append,d,c],List.drop_left]
theorem wKy(a:List Ir)(y e:Ir)(p2:List Ir)(x:Ir)(g c:Nat)(d:List Value)(k s:Nat)(n:List Value)(o:TypeId)(M:Mem)(h:M k=some (cE (Ae x++n) o))(f:x.2.oneCell'=true)(i:∀x∈p2,x.2.oneCell'=true)(C:a.length+2+p2.length<=c)(j:c<=maxLen)(w:d.length=(c-(a.length+2+p2.length))*5)(m:a.length+2+p2.length<=100000)(D:0<p2.length):
  SpecL prog 261 #[.slice (some ⟨g,0,none⟩) (a.length+2+p2.length) c,.int .i64 a.length,.int .i64 ((a.length+2:Nat):Int),.slice (some ⟨k,0,none⟩) 1 s] M [(g,cE (a.flatMap Ae++(Ae y++Ae e++(p2.flatMap Ae++d))) IT)] λu M' B=>Own u B IT 5 (a.length+1+p2.length) ((a++[x]++p2).flatMap Ae):=by
 refine sB func261 ntmps261 ?_;intro W;refine gh ?_;refine lq (CL rfl rfl rfl (.no _) (.of (v:=a.length+2) rfl (by omega) (by omega)) (.of (v:=a.length) rfl (by omega) (by omega)) (by omega) (by simp)) ?_;refine gt ?_;refine D7 [0,1,2,3,4,5,6,7,8,9,10,11,12] [] ?_;refine gh ?_;refine dq rfl (Bh (CL rfl rfl rfl (.no _) (.of (v:=a.length) rfl (by omega) (by omega)) (.no _) (by omega) (by simp)) (v':=.slice (some ⟨g,0,none⟩) (a.length) (c)) (by rw[AU];rfl)) ?_;refine gh ?_;refine dq rfl (Bh (CL rfl rfl rfl (.no _) (.no _) (.of (v:=a.length+2) rfl (by omega) (by omega)) (by omega) (by simp)) (v':=.slice (some ⟨g,a.length*5+10,none⟩) (p2.length) (c-(a.length+2))) (by rw[AH (by omega)];exact Gq (by omega) (by omega) (by omega))) ?_;refine gh ?_;refine lq (T1 rfl rfl rfl) ?_;refine gt ?_;refine lq (Bh (CL rfl rfl rfl (.no _) (.of (v:=a.length+1+p2.length) rfl (by omega) (by omega)) (.no _) (by omega) (by simp)) (v':=.slice (some ⟨g,0,none⟩) (a.length+1+p2.length) c) (by rw[AU];exact Gq rfl (by omega) (by omega))) ?_;refine gt ?_;refine lq (Bh (CL rfl rfl rfl (.no _) (.no _) (.of (v:=a.length) rfl (by omega) (by omega)) (by omega) (by simp)) (v':=.slice (some ⟨g,a.length*5,none⟩) (a.length+1+p2.length-a.length) (c-a.length)) (by rw[AH (by omega)];exact Gq (by omega) (by omega) (by omega))) ?_;refine gh ?_;refine lh (Fd (cs:=Ae x) rfl rfl rfl rfl (by rw[Ag,Nat.min_eq_left (by omega)]) ((SM.of_block_pre h).sj _) (by intro u l;simp only[Ae,mem_cons,not_mem_nil,or_false]at l;rcases l with rfl|rfl|rfl|rfl|rfl<;>first|rfl|exact f) (by simp only[length_append,length_take,length_drop,fl,Ag];omega)) ?_;rintro _ _ _ ⟨rfl,rfl,rfl⟩;have b:=wKa (a.flatMap Ae) (Ae x) (Ae y) (p2.flatMap Ae++d) (a.length*5) (fl a) rfl rfl (Ae e);rw[Nat.zero_add]at b;rw[b];refine gh ?_;refine D7 [0,1,2,3,4,5,6,7,8,109] [] ?_;refine gh ?_;refine dq rfl (Bh (CL rfl rfl rfl (.no _) (.no _) (.of (v:=a.length+1) rfl (by omega) (by omega)) (by omega) (by simp)) (v':=.slice (some ⟨g,a.length*5+5,none⟩) (a.length+1+p2.length-(a.length+1)) (c-(a.length+1))) (by rw[AH (by omega)];exact Gq (by omega) (by omega) (by omega))) ?_;refine gh ?_;refine dq rfl (Bh (CL rfl rfl rfl (.no _) (.no _) (.of (v:=a.length+2) rfl (by omega) (by omega)) (by omega) (by simp)) (v':=.slice (some ⟨g,a.length*5+10,none⟩) (p2.length) (c-(a.length+2))) (by rw[AH (by omega)];exact Gq (by omega) (by omega) (by omega))) ?_;refine dh rfl (Fd (cs:=p2.flatMap Ae) rfl rfl rfl rfl (by rw[fl,Nat.min_eq_left (by omega)]) (wTb (List.Mem.head _) (by rw[length_append,fl,Ag,Ag])) (B2 i) (by simp only[length_append,length_take,length_drop,fl,Ag];omega)) ?_;rintro _ _ _ ⟨rfl,rfl,rfl⟩;refine⟨MLe.refl _,by simp,?_⟩;refine gh ?_;refine lq (Bh (CL rfl rfl rfl (.no _) (.no _) (.of (v:=a.length+1+p2.length) rfl (by omega) (by omega)) (by omega) (by simp)) (v':=.slice (some ⟨g,(a.length+1+p2.length)*5,none⟩) (1) (c-(a.length+1+p2.length))) (by rw[AH (by omega)];exact Gq (by omega) (by omega) (by omega))) ?_;refine DE rfl (Zd rfl rfl rfl (by decide) (by simp[Value.oneCell']) (by simp only[length_append,length_take,length_drop,fl,Ag];omega)) ?_;rintro _ _ _ ⟨rfl,rfl⟩;refine Ai (jT (Ah (Af ?_)));iterate 2 refine jp rfl ?_
 refine Ai (jT (Bq (wJh ?_)));refine FX rfl rfl ?_;have z:((a.flatMap Ae++Ae x)++(Ae e++(p2.flatMap Ae++d))).take (a.length*5+5)=a.flatMap Ae++Ae x:=by rw[show a.length*5+5=(a.flatMap Ae++Ae x).length by rw[length_append,fl,Ag],take_left]
 rw[flatMap_append,flatMap_append,show [x].flatMap Ae=Ae x by simp];exact T3 z (by simp only[length_append,fl,Ag];omega) (by simp only[length_append,fl,Ag];omega) (by omega) j (by simp only[length_append,length_take,length_drop,fl,Ag];omega) rfl (by simp only[length_append,length_take,length_drop,fl,Ag];omega)
theorem wLa(a:List Ir)(y k:Ir)(x:Ir)(g c:Nat)(h:List Value)(f n:Nat)(l:List Value)(m:TypeId)(M:Mem)(d:M f=some (cE (Ae x++l) m))(b:x.2.oneCell'=true)(w:a.length+2<=c)(e:c<=maxLen)(o:h.length=(c-(a.length+2))*5)(j:a.length+2<=100000):
  SpecL prog 261 #[.slice (some ⟨g,0,none⟩) (a.length+2) c,.int .i64 a.length,.int .i64 ((a.length+2:Nat):Int),.slice (some ⟨f,0,none⟩) 1 n] M [(g,cE (a.flatMap Ae++(Ae y++Ae k++h)) IT)] λu M' s=>Own u s IT 5 (a.length+1) ((a++[x]).flatMap Ae):=by
 refine sB func261 ntmps261 ?_;intro W;refine gh ?_;refine lq (CL rfl rfl rfl (.no _) (.of (v:=a.length+2) rfl (by omega) (by omega)) (.of (v:=a.length) rfl (by omega) (by omega)) (by omega) (by simp)) ?_;refine gt ?_;refine lq (Bh (CL rfl rfl rfl (.no _) (.of (v:=a.length) rfl (by omega) (by omega)) (.no _) (by omega) (by simp)) (v':=.slice (some ⟨g,0,none⟩) (a.length) (c)) (by rw[AU];rfl)) ?_;refine gh ?_;refine lh (QZ (cs:=Ae x) rfl rfl rfl rfl (by rw[Ag]) ((SM.of_block_pre d).sj _) (by intro u i;simp only[Ae,mem_cons,not_mem_nil,or_false]at i;rcases i with rfl|rfl|rfl|rfl|rfl<;>first|rfl|exact b) (by omega) (by simp only[length_append,length_take,length_drop,fl,Ag];omega)) ?_;rintro _ _ _ ⟨rfl,rfl,rfl⟩;refine gt ?_;refine lq (Bh (CL rfl rfl rfl (.no _) (.no _) (.of (v:=a.length+1) rfl (by omega) (by omega)) (by omega) (by simp)) (v':=.slice (some ⟨g,(a.length+1)*5,none⟩) (1) (c-(a.length+1))) (by rw[AH (by omega)];exact Gq (by omega) (by omega) (by omega))) ?_;refine DE rfl (Zd rfl rfl rfl (by decide) (by simp[Value.oneCell']) (by simp only[length_append,length_take,length_drop,fl,Ag];omega)) ?_;rintro _ _ _ ⟨rfl,rfl⟩;refine Ai (jT (Ah (Af ?_)));iterate 2 refine jp rfl ?_
 refine Ai (jT (Bq (wJh ?_)));refine FX rfl rfl ?_;rw[flatMap_append,show [x].flatMap Ae=Ae x by simp];exact T3 (wCb a _) (by rw[fl,Ag];omega) (by rw[fl,Ag];omega) (by omega) e (by simp only[length_append,length_take,length_drop,fl,Ag];omega) rfl (by simp only[length_append,length_take,length_drop,fl,Ag];omega)
theorem MF(ps:List Ir)(i:Nat)(j:i<ps.length)(f:Option Addr)(d:Nat)(R:Lc)(a:Own (.slice f ps.length d) R IT 5 ps.length (ps.flatMap Ae))(e:∀x∈ps,x.2.oneCell'=true)(M:Mem)(k:ps.length<=100000):
  SpecL prog 273 #[.slice f ps.length d,.int .i64 i,.int .i64 ((i+1:Nat):Int)] M R λu _ s=>Own u s IT 5 (ps.length-1) ((ps.take i++ps.drop (i+1)).flatMap Ae):=by
 obtain⟨g,sp,rfl,rfl,w,o,n⟩:=J2 a j;have c:(ps.take i).length=i:=by rw[length_take];omega
 have b:(ps.drop (i+1)).length=ps.length-(i+1):=length_drop;have m:ps.drop i=ps[i]::ps.drop (i+1):=List.drop_eq_getElem_cons j;rw[m,flatMap_cons,append_assoc];have h:=UJ (ps.take i) ps[i] (ps.drop (i+1)) g d sp M (λx l=>e x (List.mem_of_mem_drop l)) (by omega) o (by rw[c,b,show i+1+(ps.length-(i+1))=ps.length by omega];exact n) (by omega);rw[c,b,show i+1+(ps.length-(i+1))=ps.length by omega,show i+(ps.length-(i+1))=ps.length-1 by omega]at h;exact h
theorem wEf(ps:List Ir)(x:Ir)(i:Nat)(G:i+1<ps.length)(y:Option Addr)(k:Nat)(R:Lc)(d:Own (.slice y ps.length k) R IT 5 ps.length (ps.flatMap Ae))(o:∀x∈ps,x.2.oneCell'=true)(j n:Nat)(l:List Value)(m:TypeId)(M:Mem)(c:M j=some (cE (Ae x++l) m))(b:x.2.oneCell'=true)(B:ps.length<=100000):
  SpecL prog 261 #[.slice y ps.length k,.int .i64 i,.int .i64 ((i+2:Nat):Int),.slice (some ⟨j,0,none⟩) 1 n] M R λu _ H=>Own u H IT 5 (ps.length-1) ((ps.take i++[x]++ps.drop (i+2)).flatMap Ae):=by
 obtain⟨g,sp,rfl,rfl,I,D,C⟩:=J2 d (i:=i) (by omega);have a:(ps.take i).length=i:=by rw[length_take];omega
 have e:(ps.drop (i+2)).length=ps.length-(i+2):=length_drop;have z:ps.drop i=ps[i]::ps[i+1]::ps.drop (i+2):=by rw[List.drop_eq_getElem_cons (show i<ps.length by omega),List.drop_eq_getElem_cons G]
 rw[z,flatMap_cons,flatMap_cons,<-append_assoc (Ae ps[i]),append_assoc (Ae ps[i]++Ae ps[i+1])];clear z;generalize ps[i]=w;generalize ps[i+1]=s;by_cases h:i+2=ps.length
 ·have F:ps.drop (i+2)=[]:=List.drop_eq_nil_of_le (by omega);have f:=wLa (ps.take i) w s x g k sp j n l m M c b (by omega) D (by rw[a,h];exact C) (by omega);rw[a]at f;rw[F,List.flatMap_nil,List.nil_append,List.append_nil,show ps.length-1=i+1 by omega,<-h];exact f
 have f:=wKy (ps.take i) w s (ps.drop (i+2)) x g k sp j n l m M c b (λx E=>o x (List.mem_of_mem_drop E)) (by omega) D (by rw[a,e,show i+2+(ps.length-(i+2))=ps.length by omega];exact C) (by omega) (by omega);rw[a,e,show i+2+(ps.length-(i+2))=ps.length by omega,show i+1+(ps.length-(i+2))=ps.length-1 by omega]at f;exact f
theorem wGp(M:Mem):
  SpecL prog 335 #[.slice none 0 0,.int .i64 0] M [] λu M' a=>Own u a IT 5 0 []:=by
 refine sB func335 ntmps335 ?_;intro W;refine gt ?_;refine lq (T1 rfl rfl rfl) ?_;refine gu ?_;exact Own.nil _ _
theorem Y7(n:Nat)(M:Mem)(h:0<n)(f:n<=1000000000):
  SpecL prog 335 #[.slice none 0 0,.int .i64 n] M [] λu M' i=>Own u i IT 5 0 []:=by
 refine sB func335 ntmps335 ?_;intro W;refine gt ?_;refine lq (T1 rfl rfl rfl) ?_;refine gt ?_;refine lq (T1 rfl rfl rfl) ?_;refine lq (Bh (CL rfl rfl rfl (.no _) (.of (v:=0) rfl (by omega) rfl) (.no _) (by omega) (by simp)) (v':=.slice none 0 0) (by rw[AU])) ?_;refine gh ?_;refine lh (wGs (n:=n) rfl rfl rfl (by simp[show (n:Int)-(0-0)=n by omega];rfl) (by rfl) h f (by omega)) ?_;rintro _ _ _ ⟨rfl,b,a,e,rfl,rfl,g,d,c⟩;refine gh ?_;refine lq (Bh (CL rfl rfl rfl (.no _) (.of (v:=0) rfl (by omega) rfl) (.no _) (by omega) (by simp)) (v':=.slice (some ⟨b,0,none⟩) 0 a) (by rw[AU];rfl)) ?_;refine jp rfl ?_;refine Ai (jT (Ah (Af ?_)));iterate 2 refine jp rfl ?_
 refine Ai (jT (Bq ?_));refine FX rfl rfl ?_;exact⟨rfl,.inr ⟨b,a,e,rfl,rfl,Nat.zero_le _,d,c,by simp⟩⟩
theorem Y6(n:Nat)(M:Mem)(a:n<=1000000000):SpecL prog 335 #[.slice none 0 0,.int .i64 n] M [] λu _ b=>Own u b IT 5 0 []:=by
 rcases Nat.eq_zero_or_pos n with rfl|h
 ·exact wGp M
 exact Y7 n M h a
variable{bs:List (List Ir)}{k:Nat}
theorem K3(h:k<bs.length):(bs.take (k+1)).flatten=(bs.take k).flatten++bs[k]:=by
 rw[List.take_succ_eq_append_getElem h,List.flatten_append];simp
theorem L6(k:Nat):(bs.take k).flatten.length<=bs.flatten.length:=by
 conv=>rhs;rw[<-List.take_append_drop k bs,List.flatten_append,length_append]
 omega
def RwS(M:Mem)(v:Value)(r:List Ir):Prop:=∃a c,v=.slice a r.length c/\r.length<=c/\SM M a (r.flatMap Ae)
theorem RwS.mono{M':Mem}{v:Value}{r:List Ir}(h:RwS M v r)(b:MLe M M'):RwS M' v r:=by obtain⟨a,c,f,e,d⟩:=h;exact⟨a,c,f,e,d.mono b⟩
variable{ps:List (List Ir×Value)}{sb:Nat}
theorem wAh{f:Nat}(h:∀i u,(ps.map (·.2))[i]? =some u->CM M sb (f+i) u)(g:ps.map (·.1)=bs)(j:∀p∈ps,RwS M p.2 p.1)(hk:k<bs.length):
  ∃a c,CM M sb (f+k*1) (.slice a bs[k].length c)/\bs[k].length<=c/\SM M a (bs[k].flatMap Ae):=by
 have b:k<ps.length:=by rw[<-g,length_map]at hk;exact hk
 have d:bs[k]=ps[k].1:=by simp[<-g]
 obtain⟨a,c,e,m,l⟩:=j ps[k] (getElem_mem b);rw[d];refine⟨a,c,?_,m,l⟩;rw[Nat.mul_one];exact h k _ (by rw[List.getElem?_map,List.getElem?_eq_getElem b,Option.map_some,e])
theorem Uk(bs:List (List Ir))(a:Option Addr)(c:Nat)(ps:List (List Ir×Value))(M:Mem)(U:bs.length<=c)(hs:SM M a (ps.map (·.2)))(m:ps.map (·.1)=bs)(F:∀p∈ps,RwS M p.2 p.1)(w:∀r∈bs,∀x∈r,x.2.oneCell'=true)(T:bs.length<=1000)(S:bs.flatten.length<=1000000):
  SpecL prog 323 #[.slice a bs.length c] M [] λu M' P=>Own u P IT 5 bs.flatten.length (bs.flatten.flatMap Ae):=by
 refine sB func323 ntmps323 ?_;intro W;refine gh ?_;refine CC (α:=Nat) (λk=>[(0,.slice a bs.length c),(3,.int .i64 ((bs.take k).flatten.length:Int)),(9,.slice a bs.length c),(10,.int .i64 bs.length),(11,.int .i64 k)]) (λ_=>M) (λ_=>[]) (λk=>k<=bs.length) (λk=>bs.length-k) 0 (Nat.zero_le _) ?_;rintro k hk;try dsimp only at hk⊢
 have z:=L6 (bs:=bs) k;refine gj (λD=>?_) λD=>?_
 ·refine gh ?_;have b:k<bs.length:=by omega
  obtain⟨sb,I,E,n⟩:=hs.open (by intro e;have:=congrArg length e;rw[length_map,length_nil]at this;have C:=congrArg length m;rw[length_map]at C;omega);subst E;obtain⟨H,G,i,o,j⟩:=wAh n m F b;have g:=congrArg length (K3 b);rw[length_append]at g;have y:=L6 (bs:=bs) (k+1);refine gh ?_;refine lq (Au rfl rfl rfl rfl (i.cj _)) ?_;refine gt ?_;refine BD (k+1) (by show k+1<=bs.length;omega) (hk:=(Keep.cons (t:=0) rfl (Keep.ceq (t:=3) rfl (by rw[g];rfl) (Keep.cons (t:=9) rfl (Keep.cons (t:=10) rfl (Keep.cons (t:=11) rfl Keep.nil))))))
 refine gh ?_;obtain rfl:k=bs.length:=by omega
 rw[List.take_length];refine gC (Y6 bs.flatten.length M (by omega)) ?_;rintro _ O L l h;refine gh ?_;refine CC (α:=Nat×Lc×Value) (λx=>[(6,x.2.2),(25,.slice a bs.length c),(26,.int .i64 bs.length),(27,.int .i64 x.1)]) (λ_=>O) (λx=>x.2.1) (λx=>x.1<=bs.length/\Own x.2.2 x.2.1 IT 5 (bs.take x.1).flatten.length ((bs.take x.1).flatten.flatMap Ae)) (λx=>bs.length-x.1) (0,L,_) ⟨Nat.zero_le _,by simpa using h⟩ ?_;rintro⟨k,R,s⟩ ⟨hk,d⟩;try dsimp only at hk d⊢
 have z:=L6 (bs:=bs) k;refine gj (λB=>?_) λB=>?_
 ·refine gh ?_;have b:k<bs.length:=by omega
  obtain⟨sb,I,E,n⟩:=hs.open (by intro e;have:=congrArg length e;rw[length_map,length_nil]at this;have C:=congrArg length m;rw[length_map]at C;omega);subst E;obtain⟨H,G,i,o,j⟩:=wAh n m F b;have g:=congrArg length (K3 b);rw[length_append]at g;have y:=L6 (bs:=bs) (k+1);refine gh ?_;refine lq (Au rfl rfl rfl rfl ((i.mono l).cj _)) ?_;refine gh ?_;refine lh (Eh (R:=R) (news:=bs[k].flatMap Ae) rfl rfl rfl rfl d (fl _) (j.mono l) (by rfl) (B2 (w _ (getElem_mem b))) (by omega) (by omega)) ?_;rintro Q _ _ ⟨rfl,N,rfl,f⟩;obtain⟨K,J,rfl⟩:=f.form;refine gh ?_;refine BD (k+1,N,.slice K _ J) ⟨by show k+1<=bs.length;omega,?_⟩;show Own _ _ _ _ (bs.take (k+1)).flatten.length ((bs.take (k+1)).flatten.flatMap Ae);rw[K3 b,length_append,flatMap_append];exact f
 refine Ai (jT (Ah (DM rfl (Gi (wBo (wBo (wXd (jT (Ah (Af ?_))))))))));iterate 2 refine jp rfl ?_
 refine Ai (jT (Bq ?_));refine FX rfl rfl ?_;obtain rfl:k=bs.length:=by omega
 rw[List.take_length]at d;exact d
theorem Ul(r1 a:List Ir)(d c:Value)(b:Nat)(M:Mem)(j:M b=some (cE [d,c] 79))(l:RwS M d r1)(k:RwS M c a)(f:∀x∈r1,x.2.oneCell'=true)(e:∀x∈a,x.2.oneCell'=true)(i:r1.length+a.length<=1000000):
  SpecL prog 323 #[.slice (some ⟨b,0,none⟩) 2 2] M [] λu _ m=>Own u m IT 5 (r1.length+a.length) ((r1++a).flatMap Ae):=by
 have:=Uk [r1,a] (some ⟨b,0,none⟩) 2 [(r1,d),(a,c)] M (Nat.le_refl _) (SM.of_block j) rfl (λp h=>by
  simp only[mem_cons,not_mem_nil,or_false]at h;rcases h with rfl|rfl
  ·exact l
  ·exact k) (λr g=>by
  simp only[mem_cons,not_mem_nil,or_false]at g;rcases g with rfl|rfl
  ·exact f
  exact e) (by simp) (by simpa using i)
 simpa using this
theorem bwd(a:Option Addr)(n c:Nat)(M:Mem):
  SpecL prog 274 #[.slice a n c] M [] λu M' g=>∃b,u=.func (.func 322) #[] #[pB b]/\M' b=some (.cells #[.slice a n c] 365 (0,0))/\g=[]:=by
 refine sB func274 ntmps274 ?_;intro W;refine gh ?_;refine lh (Bt (cs:=[.slice a n c]) rfl rfl rfl rfl) ?_;rintro _ _ _ ⟨d,rfl,rfl,rfl⟩;refine gh ?_;refine AF d (by simp) ?_;intro h e f;refine gr ?_;exact⟨d,rfl,f,rfl⟩
theorem wRm(b:Nat)(a:Option Addr)(c:Nat)(xs:List (Stp×Value))(M:Mem)(H:M b=some (.cells #[.slice a xs.length c] 365 (0,0)))(hs:SM M a (xs.flatMap A4))(R:xs.length<=1000000)(l:Nat)(J D:List ((Stp×Value)×Nat)->Mem->Lc->Prop)(m:Mem)(z:Lc)(B:MLe M m)(I:∀d y M2 L2,MLe m M2->J d M2 L2->d++[y]<+:bw xs 0->Em prog l ((λp:(Stp×Value)×Nat=>[.int .i64 p.2,.agg (A4 p.1).toArray]) y).toArray M2 L2 λv M' L'=>(v=.bool true/\J (d++[y]) M' L')\/(v=.bool false/\D (d++[y]) M' L'))(K:J [] m z):
  SpecL prog 322 #[.func (.yield l) #[] #[],pB b] m z λ_ M' L'=>J (bw xs 0) M' L'\/∃d,d<+:bw xs 0/\D d M' L':=by
 have o:∀{M2:Mem}(L:Lc),MLe m M2->CJ M2 L b 0 (.slice a xs.length c):=λL h=>(CM.cj ⟨_,_,_,h _ _ (B _ _ H),rfl⟩ L);refine sB func322 ntmps322 ?_;intro W;refine gh ?_;refine lq (Au rfl rfl rfl rfl (o _ (MLe.refl _))) ?_;refine gh ?_;refine CC (α:=Int×Mem×Lc) (λx=>[(0,.func (.yield l) #[] #[]),(1,pB b),(3,.int .i64 x.1)]) (λx=>x.2.1) (λx=>x.2.2) (λx=> -1<=x.1/\x.1<xs.length/\MLe m x.2.1/\J (bw xs (x.1+1).toNat) x.2.1 x.2.2) (λx=>(x.1+1).toNat) ((xs.length:Int)-1,m,z) ⟨by show -1<=(xs.length:Int)-1;omega,by show (xs.length:Int)-1<xs.length;omega,MLe.refl _,by show J (bw xs ((xs.length:Int)-1+1).toNat) _ _;rw[show ((xs.length:Int)-1+1).toNat=xs.length by omega,RO];exact K⟩ ?_;rintro⟨i,O,P⟩ ⟨s,G,f,j⟩;try dsimp only at s G f j⊢
 refine gj (λu=>?_) λu=>?_
 ·refine gh ?_;obtain⟨k,rfl⟩:∃k:Nat,i=k:=⟨i.toNat,by omega⟩;have g:k<xs.length:=by omega
  obtain⟨sb,Q,N,E⟩:=hs.open (by intro e;have:=congrArg length e;rw[Aj A4 3 Dq,length_nil]at this;omega);subst N;refine lq (Au rfl rfl rfl rfl (o _ f)) ?_;refine gh ?_;refine lq (A1 (cs:=A4 xs[k]) rfl rfl rfl rfl rfl (λi v F=>((Bs A4 3 Dq E (show xs[k]? =some xs[k]by simp[g]) i v F).mono (B.trans f)).cj _)) ?_;refine lh (K4 rfl rfl rfl rfl (I (bw xs (k+1)) (xs[k],k) O P f (by rwa[show ((k:Int)+1).toNat=k+1 by omega]at j) (by rw[<-EP xs g];exact C3 xs k))) ?_;rintro _ M' _ ⟨w,C,rfl,n⟩;rw[<-EP xs g]at n;rcases n with⟨rfl,n⟩|⟨rfl,n⟩
  ·refine gh ?_;refine BD ((k:Int)-1,M',C) ⟨by show -1<=(k:Int)-1;omega,by show (k:Int)-1<xs.length;omega,f.trans w,by show J (bw xs ((k:Int)-1+1).toNat) _ _;rw[show ((k:Int)-1+1).toNat=k by omega];exact n⟩
  refine gh ?_;refine AB (L':=C) (by simp) ?_;refine Pi (rs:=[]) rfl .nil ?_;exact .inr ⟨_,C3 xs k,n⟩
 refine gh ?_;refine YU ?_;refine Pi (rs:=[]) rfl .nil ?_;obtain rfl:i= -1:=by omega
 exact .inl j
theorem wRk(b:Nat)(a:Option Addr)(c:Nat)(xs:List (Stp×Value))(M:Mem)(e:M b=some (.cells #[.slice a xs.length c] 365 (0,0)))(hs:SM M a (xs.flatMap A4))(d:xs.length<=1000000):Iter prog 322 [pB b] M (λp:(Stp×Value)×Nat=>[.int .i64 p.2,.agg (A4 p.1).toArray]) (bw xs 0):=
 λl J k i j f g h=>wRm b a c xs M e hs d l J k i j f g h
section
variable{P:Program}{N:Fs}{F:Fr}{W:World}{X:List Nat}{M0 M:Mem}{L:Lc}{Q:Exit->Act->World->Prop}
theorem LT{g:Exit}{v:Value}{R L2:Lc}{e:TypeId}{size n:Nat}{xs:List Value}(l:Own v R e size n xs)[k:Pick R L L2](o:∀x∈X,x∈L2.map (·.1))(h:∀M' a b,MLe M M'->v=.slice a n b->n<=b->SM M' a xs->JQ N g F ⟨W,X,M0⟩ M' L2 Q):JQ N g F ⟨W,X,M0⟩ M L Q:=by
 intro a w s j;have c:=j.perm k.perm;have m:∀p∈R,p.1∉X:=λp f i=>by
  have d:=c.nodup;rw[map_append,List.nodup_append]at d;exact d.2.2 p.1 (List.mem_map_of_mem f) p.1 (o _ i) rfl
 obtain⟨M',C,b,d,B,z,y,u⟩:=l.freeze m c;exact h M' C b d B z y a w s u
end
structure WdI(s:Sto)(q:Ky)(lev:Nat)(xs0:List It)(M0:Mem)(x:WyS):Prop where
 rng:8<=x.k/\x.k<256
 nd:Ak s x.k.toNat=some ((x.l:Int),x.xs)
 tr:A3 s x.l x.xs
 fd:∃y,BW s q x.l x.xs=some y
 mle:MLe M0 x.M
 own:Own x.v x.R 368 3 x.ps.length (x.ps.flatMap A4)
 ns:∀p∈x.ps,NS x.M p.2 p.1.xs
 eq:AE s q lev xs0=x.ps.map (·.1)++AE s q x.l x.xs
 len:x.ps.length+x.l=lev
variable{l:Nat}{s:Sto}{xs:List It}{y:It}
theorem Ro{q:Ky}(h:BW s q (l+1) xs=some y)(f:BO xs q<xs.length):BW s q l (kid s xs[BO xs q])=some y/\(FQ xs q=false->1<=place xs q):=by
 rw[BW]at h;unfold KR at h;by_cases a:FQ xs q=true
 ·have e:BO xs q=place xs q:=if_pos a;have b:=Fo a;rw[if_pos a,List.getElem?_eq_getElem b]at h;refine⟨?_,λc=>by rw[a]at c;cases c⟩;simp only[e];exact h
 have e:BO xs q=place xs q-1:=if_neg a;rw[if_neg a]at h;by_cases d:place xs q=0
 ·rw [if_pos d]at h;cases h
 have b:place xs q-1<xs.length:=by omega
 rw[if_neg d,List.getElem?_eq_getElem b]at h;refine⟨?_,λ_=>by omega⟩;simp only[e];exact h
theorem wHj(s:Sto)(root:Int)(q:Ky)(bv wv nv lw:Value)(c:Nat)(o:List It)(M:Mem)(ax:ST M (.agg #[bv,wv,nv,lw]) s)(hr:8<=root/\root<256)(aq:Av s)(P:Ak s root.toNat=some ((c:Int),o))(ap:A3 s c o)(aw:∃y,BW s q c o=some y):
  SpecL prog 272 #[.agg #[bv,wv,nv,lw],.int .i64 root,.agg (AA q).toArray] M [] λu M' L'=>SS M' u (AE s q c o)/\L'=[]:=by
 have ay:=(Ar P).lev;refine sB func272 ntmps272 ?_;intro W;refine gh ?_;refine lh (Bt (cs:=[bv,wv,nv,lw]) rfl rfl rfl rfl) ?_;rintro _ _ _ ⟨b3,rfl,rfl,rfl⟩;refine lh (Bt (cs:=[.int .u8 q.kind,.int .u32 q.id,.int .u32 q.off]) rfl rfl rfl rfl) ?_;rintro _ _ _ ⟨b5,rfl,rfl,rfl⟩;refine gh ?_;refine CC (α:=WyS) (λx=>[(3,pB b3),(5,pB b5),(6,x.v),(7,.int .i64 x.k)]) (λx=>x.M) (λx=>x.R++[(b5,cE [.int .u8 q.kind,.int .u32 q.id,.int .u32 q.off] 92),(b3,cE [bv,wv,nv,lw] 28)]) (λx=>WdI s q c o M x) (λx=>x.l) ⟨root,c,o,[],M,[],.slice none 0 0⟩ ⟨hr,P,ap,aw,MLe.refl _,Own.nil _ _,λ_ h=>(by cases h),rfl,by show 0+c=c;omega⟩ ?_;rintro⟨k,l,xs,ps,Mk,Rk,v⟩ hI;try dsimp only
 obtain⟨ai,n,ae,⟨y9,E⟩,N,f,G,H,ah⟩:=hI;dsimp only at ai n ae N f G H ah E;obtain⟨a1,a0,ao⟩:=f.form;subst ao;have J:=Ar n;have az:=(Ar n).len;have a2:=(Ar n).lev;refine gc (KL s _ k Mk (ax.mono N)) ?_;rintro _ Mn z au;obtain⟨sl,rfl,g⟩:=au.nd (wCn aq ai (Ub n)) n;obtain⟨Q,I,aj,rfl,av,X,C,Z⟩:=id g;simp only[List.nil_append];refine ga λb8=>?_;refine lq (qC (FD _ xs q Q I aj Mn av X C Z (by omega))) ?_;iterate 2 refine jp rfl ?_
 refine LZ rfl (λL=>?_) (λL=>?_)
 ·iterate 2 refine jp rfl ?_
  refine Ai (jT (Ah (Ah (Af ?_))));refine lq (Ac rfl rfl rfl rfl rfl) ?_;refine lq (Au rfl rfl rfl rfl (CJ.loc rfl)) ?_;refine js rfl (λad=>?_) (λad=>?_)
  ·refine gg ?_;have D:l≠0:=by omega
   obtain⟨l,rfl⟩:∃l2,l=l2+1:=⟨l-1,by omega⟩;have Y:=Gc n (by show (0:Int)<((l+1:Nat):Int);omega);have b:=HU (q:=q) Y;have K:=Ro E b;have T:BO xs q=place xs q:=if_pos L;rw[<-T];refine gh ?_;refine lh (Ab (cs:=[_,_,_]) rfl rfl rfl (by rfl) (by rfl) (by rfl)) ?_;rintro _ _ _ ⟨ag,rfl,rfl,rfl⟩;have aa:l<6:=by omega
   refine lh (AY (R:=Rk) (m:=1) (news:=A4 (⟨((l+1:Nat):Int),xs,BO xs q⟩,.slice Q xs.length I)) rfl rfl rfl rfl f rfl (λi v U=>CJ.loc (by rw[<-U];show _[0+i]? =_;rw[Nat.zero_add];rfl)) rfl (by rfl) (by simp[A4,Value.oneCell']) (by omega) (by omega)) ?_;rintro s' _ _ ⟨rfl,O,rfl,a,_⟩;obtain⟨a4,c4,rfl⟩:=a.form;refine gt ?_;obtain⟨sb,so,e0,hx⟩:=X.open (by intro e;have:=congrArg length e;rw[Aj Ae 5 Ag,length_nil]at this;have h2:=congrArg length C;rw[length_map]at h2;omega);cases e0;obtain⟨va,vc,ab,am,al⟩:=Aw hx C Z b;refine gh ?_;refine lq (Au rfl rfl rfl rfl ((ab 3 _ rfl).cj _)) ?_;refine gh ?_;obtain⟨ys,B,ak,S⟩:=BJ ae (getElem_mem b);have j:kid s xs[BO xs q]=ys:=by unfold kid;rw[B]
   refine BD ⟨xs[BO xs q].ref,l,ys,ps++[(⟨((l+1:Nat):Int),xs,BO xs q⟩,.slice (some ⟨sb,so,none⟩) xs.length I)],Mn,O,.slice a4 (ps.length+1) c4⟩ ⟨by have:=J.ref _ (getElem_mem b);have:=J.up (by omega) _ (getElem_mem b);show 8<=xs[BO xs q].ref/\xs[BO xs q].ref<256;omega,B,S,⟨y9,by rw[<-j];exact K.1⟩,N.trans z,?_,?_,?_,?_⟩ (hs:=λw h=>h.dropAt.dropAt.perm BE)
   ·show Own _ O _ 3 (ps++[_]).length ((ps++[_]).flatMap A4);rw[length_append,flatMap_append];simpa using a
   ·intro p d;rcases List.mem_append.1 d with d|d
    ·exact (G p d).mono z
    rw[List.mem_singleton.1 d];exact g
   ·rw [H];show ps.map _++AE s q (l+1) xs=(ps++[_]).map _++_;rw[AE,List.getElem?_eq_getElem b,map_append,append_assoc];show _++(_::AE s q l (kid s xs[BO xs q]))=_;rw[j];rfl
   show (ps++[_]).length+l=c;rw[length_append];show ps.length+1+l=c;omega
  refine gg ?_;refine lh (Ab (cs:=[_,_,_]) rfl rfl rfl (by rfl) (by rfl) (by rfl)) ?_;rintro _ _ _ ⟨ag,rfl,rfl,rfl⟩;have aa:l<6:=by omega
  refine lh (AY (R:=Rk) (m:=1) (news:=A4 (⟨((l:Nat):Int),xs,place xs q⟩,.slice Q xs.length I)) rfl rfl rfl rfl f rfl (λi v U=>CJ.loc (by rw[<-U];show _[0+i]? =_;rw[Nat.zero_add];rfl)) rfl (by rfl) (by simp[A4,Value.oneCell']) (by omega) (by omega)) ?_;rintro s' _ _ ⟨rfl,O,rfl,a,_⟩;obtain⟨a4,c4,rfl⟩:=a.form;refine gt ?_;refine BK (R:=O) a (by simp) ?_;intro Mf af cf F ef ac V;cases ef;refine gr ?_;have D:l=0:=by omega
  subst D;refine⟨?_,rfl⟩;rw[H];refine⟨a4,c4,ps++[(⟨((0:Nat):Int),xs,place xs q⟩,.slice Q xs.length I)],?_,?_,?_,?_,?_⟩
  ·rw [length_append,length_map];rfl
  ·rw [length_append,length_map];exact ac
  ·rw [flatMap_append];simpa using V
  ·rw [map_append];rfl
  intro p d;rcases List.mem_append.1 d with d|d
  ·exact (G p d).mono (z.trans F)
  rw[List.mem_singleton.1 d];exact g.mono F
 iterate 2 refine jp rfl ?_
 refine Ai (jT (Ah (Ah (Af ?_))));refine lq (Ac rfl rfl rfl rfl rfl) ?_;refine lq (Au rfl rfl rfl rfl (CJ.loc rfl)) ?_;refine js rfl (λad=>?_) (λad=>?_)
 ·iterate 4 refine jp rfl ?_
  refine Ai (jT (EF rfl ?_));have D:l≠0:=by omega
  obtain⟨l,rfl⟩:∃l2,l=l2+1:=⟨l-1,by omega⟩;have Y:=Gc n (by show (0:Int)<((l+1:Nat):Int);omega);have b:=HU (q:=q) Y;have K:=Ro E b;have T:BO xs q=place xs q-1:=if_neg (by rw[L];decide);refine Af ?_;refine jp rfl ?_;refine lq (Bh (qA rfl rfl rfl rfl rfl (by omega)) (v':=.int .i64 ((BO xs q:Nat):Int)) (congrArg _ (by have:=K.2 L;rw[T];omega))) ?_;refine gh ?_;refine lh (Ab (cs:=[_,_,_]) rfl rfl rfl (by rfl) (by rfl) (by rfl)) ?_;rintro _ _ _ ⟨ag,rfl,rfl,rfl⟩;have aa:l<6:=by omega
  refine lh (AY (R:=Rk) (m:=1) (news:=A4 (⟨((l+1:Nat):Int),xs,BO xs q⟩,.slice Q xs.length I)) rfl rfl rfl rfl f rfl (λi v U=>CJ.loc (by rw[<-U];show _[0+i]? =_;rw[Nat.zero_add];rfl)) rfl (by rfl) (by simp[A4,Value.oneCell']) (by omega) (by omega)) ?_;rintro s' _ _ ⟨rfl,O,rfl,a,_⟩;obtain⟨a4,c4,rfl⟩:=a.form;refine gt ?_;obtain⟨sb,so,e0,hx⟩:=X.open (by intro e;have:=congrArg length e;rw[Aj Ae 5 Ag,length_nil]at this;have h2:=congrArg length C;rw[length_map]at h2;omega);cases e0;obtain⟨va,vc,ab,am,al⟩:=Aw hx C Z b;refine gh ?_;refine lq (Au rfl rfl rfl rfl ((ab 3 _ rfl).cj _)) ?_;refine gh ?_;obtain⟨ys,B,ak,S⟩:=BJ ae (getElem_mem b);have j:kid s xs[BO xs q]=ys:=by unfold kid;rw[B]
  refine BD ⟨xs[BO xs q].ref,l,ys,ps++[(⟨((l+1:Nat):Int),xs,BO xs q⟩,.slice (some ⟨sb,so,none⟩) xs.length I)],Mn,O,.slice a4 (ps.length+1) c4⟩ ⟨by have:=J.ref _ (getElem_mem b);have:=J.up (by omega) _ (getElem_mem b);show 8<=xs[BO xs q].ref/\xs[BO xs q].ref<256;omega,B,S,⟨y9,by rw[<-j];exact K.1⟩,N.trans z,?_,?_,?_,?_⟩ (hs:=λw h=>h.dropAt.dropAt.perm BE)
  ·show Own _ O _ 3 (ps++[_]).length ((ps++[_]).flatMap A4);rw[length_append,flatMap_append];simpa using a
  ·intro p d;rcases List.mem_append.1 d with d|d
   ·exact (G p d).mono z
   rw[List.mem_singleton.1 d];exact g
  ·rw [H];show ps.map _++AE s q (l+1) xs=(ps++[_]).map _++_;rw[AE,List.getElem?_eq_getElem b,map_append,append_assoc];show _++(_::AE s q l (kid s xs[BO xs q]))=_;rw[j];rfl
  show (ps++[_]).length+l=c;rw[length_append];show ps.length+1+l=c;omega
 refine gg ?_;refine lh (Ab (cs:=[_,_,_]) rfl rfl rfl (by rfl) (by rfl) (by rfl)) ?_;rintro _ _ _ ⟨ag,rfl,rfl,rfl⟩;have aa:l<6:=by omega
 refine lh (AY (R:=Rk) (m:=1) (news:=A4 (⟨((l:Nat):Int),xs,place xs q⟩,.slice Q xs.length I)) rfl rfl rfl rfl f rfl (λi v U=>CJ.loc (by rw[<-U];show _[0+i]? =_;rw[Nat.zero_add];rfl)) rfl (by rfl) (by simp[A4,Value.oneCell']) (by omega) (by omega)) ?_;rintro s' _ _ ⟨rfl,O,rfl,a,_⟩;obtain⟨a4,c4,rfl⟩:=a.form;refine gt ?_;refine BK (R:=O) a (by simp) ?_;intro Mf af cf F ef ac V;cases ef;refine gr ?_;have D:l=0:=by omega
 subst D;refine⟨?_,rfl⟩;rw[H];refine⟨a4,c4,ps++[(⟨((0:Nat):Int),xs,place xs q⟩,.slice Q xs.length I)],?_,?_,?_,?_,?_⟩
 ·rw [length_append,length_map];rfl
 ·rw [length_append,length_map];exact ac
 ·rw [flatMap_append];simpa using V
 ·rw [map_append];rfl
 intro p d;rcases List.mem_append.1 d with d|d
 ·exact (G p d).mono (z.trans F)
 rw[List.mem_singleton.1 d];exact g.mono F
variable{M':Mem}{u:Value}
theorem BnPost.kid(h:BnPost s y.ref.toNat u M'):∃lv a c e,u=.tuple #[.agg #[.int .i64 lv,.slice a (kid s y).length c],.int .i64 e]/\NS M' (.slice a (kid s y).length c) (kid s y):=by
 obtain⟨lv,a,n,c,e,g,⟨_,b⟩|⟨_,xs,b,f,d⟩⟩:=h.form
 ·unfold BnPost at h;rw[b]at h;have e:Go.Proofs.YtjheijhahehnmaaGreatDoor.kid s y=[]:=by unfold Go.Proofs.YtjheijhahehnmaaGreatDoor.kid;rw[b]
  rw[e];exact⟨0,none,0,8,h,NS.nil⟩
 have e:Go.Proofs.YtjheijhahehnmaaGreatDoor.kid s y=xs:=by unfold Go.Proofs.YtjheijhahehnmaaGreatDoor.kid;rw[b]
 rw[e];subst f;exact⟨lv,a,c,_,g,d⟩
def wSb(r:Except Int (Sto×Int))(bb:Nat)(u:Value)(M':Mem)(L':Lc):Prop:=∃at_ e,u=.tuple #[.int .i64 at_,.int .i64 e]/\((e≠0/\r=.error e)\/(e=0/\∃t,r=.ok (t,at_)/\Av t/\BOwn M' bb L' t))
theorem NR(s:Sto)(lv:Int)(l:List It)(held:Int)(z:Option Addr)(y:Nat)(u:Nat)(M:Mem)(G:Lc)(E:BOwn M u G s)(b:Av s)(B:NS M (.slice z l.length y) l)(C:∀x∈l,0<=x.key.kind/\x.key.kind<256)(T:held=0\/(8<=held/\held<256)):
  SpecL prog 276 #[pB u,.int .i64 lv,.slice z l.length y,.int .i64 held] M G (wSb (Dj s lv l held) u):=by
 obtain⟨I,H,ps,Q,L,J,K,N⟩:=id B;cases Q;have c:s.now.length=256/\s.last.length=256/\s.waits.length<=4096:=⟨b.2.1.1,b.2.2.1,b.1.2.1⟩;refine sB func276 ntmps276 ?_;intro W;refine gh ?_;refine lh (hC (NC s lv l z y ps M L J K N C u G E c.1 c.2.1 c.2.2)) ?_;rintro _ S _ ⟨P,R,rfl,⟨k,e,rfl,w,o⟩⟩;refine gj (λg=>?_) λg=>?_
 ·refine gj (λF=>?_) λF=>?_
  ·refine gh ?_;have f:e=0:=g;obtain⟨i,j⟩:=o f;have a:KS s lv l=0:=w.symm.trans f;have d:=Hh a b.1.2.1;have h:=Jc b d.1 d.2.2.1 d.2.2.2;have n:((held.toNat:Nat):Int)=held:=Int.toNat_of_nonneg (by omega);refine gC (by have:=GN (EM s lv l) held.toNat u (by rw[h.2.1.1];omega) S R j;rwa[n]at this) ?_;rintro _ V U O ⟨rfl,D⟩;refine jp rfl ?_;refine Ai (jT (Ah (Af ?_)));iterate 4 refine jp rfl ?_
   refine Ai (jT (Bq ?_));refine wSg rfl rfl rfl ?_;refine⟨k,Cj (EM s lv l) held.toNat,rfl,?_⟩;by_cases m:Cj (EM s lv l) held.toNat=0
   ·refine .inr ⟨m,_,?_,?_,by simpa using D m⟩
    ·unfold Dj;rw[if_pos a,if_pos (by omega),if_pos m,i]
    exact C2 h (by omega)
   refine .inl ⟨m,?_⟩;unfold Dj;rw[if_pos a,if_pos (by omega),if_neg m]
  refine jp rfl ?_;refine Ai (jT (DM rfl (Co (jT (Ah (Af ?_))))));iterate 4 refine jp rfl ?_
  refine Ai (jT (Bq ?_));refine wSg rfl rfl rfl ?_;have f:e=0:=g;obtain⟨i,j⟩:=o f;have a:KS s lv l=0:=w.symm.trans f;have d:=Hh a b.1.2.1;have h:=Jc b d.1 d.2.2.1 d.2.2.2;refine⟨k,e,rfl,.inr ⟨f,EM s lv l,?_,h,by simpa using j⟩⟩;unfold Dj;rw[if_pos a,if_neg (by omega),i]
 iterate 4 refine jp rfl ?_
 refine Ai (jT (DM rfl (Co (jT (Ah (Af ?_))))));iterate 4 refine jp rfl ?_
 refine Ai (jT (Bq ?_));refine wSg rfl rfl rfl ?_;refine⟨k,e,rfl,.inl ⟨g,?_⟩⟩;unfold Dj;rw[if_neg (by rw[<-w];exact g),<-w]
structure LwS where
 n:Nat
 t:Sto
 r:Int
 l:Nat
 xs:List It
 M:Mem
 L:Lc
structure LwI(bb:Nat)(n0:Nat)(s:Sto)(r0:Int)(x:LwS):Prop where
 rng:8<=x.r/\x.r<256
 ok:Av x.t
 bo:BOwn x.M bb x.L x.t
 nd:Ak x.t x.r.toNat=some ((x.l:Int),x.xs)
 lev:Lev x.t x.l x.xs
 eq:Es n0 s r0=Es x.n x.t x.r
 lt:x.l<x.n
variable{k:Nat}{lv:Int}
theorem BnPost.nd(h:BnPost s k u M')(b:Ak s k=some (lv,xs)):∃a c,u=.tuple #[.agg #[.int .i64 lv,.slice a xs.length c],.int .i64 0]/\NS M' (.slice a xs.length c) xs:=by
 obtain⟨f,a,n,c,e,j,⟨_,d⟩|⟨l,m,d,i,g⟩⟩:=h.form
 ·rw [d]at b;cases b
 rw[d]at b;cases b;subst i;subst l;exact⟨a,c,j,g⟩
variable{n:Nat}
theorem wMv{t:Sto}{r:Int}(a:Ak t r.toNat=some (((0:Nat):Int),xs))(b:0<n):Es n t r=.ok (t,r):=by
 obtain⟨n,rfl⟩:∃m,n=m+1:=⟨n-1,by omega⟩;rw[Es,a];exact if_pos rfl
theorem wMw{t:Sto}{r:Int}(a:Ak t r.toNat=some ((l:Int),xs))(e:0<n)(c:¬(xs.length:Int)=1):Es n t r=.ok (t,r):=by
 obtain⟨n,rfl⟩:∃m,n=m+1:=⟨n-1,by omega⟩;rw[Es,a];by_cases b:(l:Int)=0
 ·exact if_pos b
 refine(if_neg b).trans ?_;rcases xs with _|⟨x,_|⟨y,d⟩⟩
 ·rfl
 ·exact absurd rfl c
 rfl
theorem wUq{t:Sto}{r:Int}{x:It}(a:Ak t r.toNat=some ((l:Int),[x]))(b:¬(l:Int)=0):Es (n+1) t r=if Bl t x.ref.toNat=0 then (match Df (Bb t x.ref.toNat) r with
  |none=>.error 8
  |some u=>Es n u x.ref)else .error (Bl t x.ref.toNat):=by rw[Es,a];exact if_neg b
theorem YM(s:Sto)(B:Int)(T S:Nat)(z:List It)(y:Nat)(M:Mem)(Lb:Lc)(aj:BOwn M y Lb s)(X:Av s)(Y:8<=B/\B<256)(I:Ak s B.toNat=some ((T:Int),z))(ah:Lev s T z)(ab:T<S):
  SpecL prog 277 #[pB y,.int .i64 B] M Lb (wSb (Es S s B) y):=by
 refine DX (vs:=[_,_]) 50 _ func277 rfl ntmps277 rfl rfl ?_;intro W;refine gh ?_;refine CC (α:=LwS) (λx=>[(0,pB y),(1,.int .i64 x.r)]) (λx=>x.M) (λx=>x.L) (λx=>LwI y S s B x) (λx=>x.l) ⟨S,s,B,T,z,M,Lb⟩ ⟨Y,X,aj,I,ah,rfl,ab⟩ ?_;rintro⟨n,t,r,l,xs,Mk,U⟩ hI;try dsimp only
 obtain⟨D,b,i,a,Q,c,R⟩:=hI;dsimp only at D b i a Q c R;have H:=Ar a;refine gC (by have:=NB t r.toNat y (by omega) b Mk U i;rwa[show ((r.toNat:Nat):Int)=r by omega]at this) ?_;rintro _ Mn av C ⟨af,ag⟩;rw[ag];obtain⟨na,nc,rfl,Z⟩:=af.nd a;refine gA λb6=>?_;refine gt ?_;refine gj (λP=>?_) λP=>?_
 ·refine gh ?_;refine AB (L':=U) (by simp) ?_;refine wSg rfl rfl rfl ?_;have o:l=0:=by omega
  subst o;refine⟨r,0,rfl,.inr ⟨rfl,t,?_,b,i.mono C⟩⟩;rw[c];exact wMv a R
 iterate 2 refine jp rfl ?_
 refine lq (Ac rfl rfl rfl rfl rfl) ?_;refine lq (Au rfl rfl rfl rfl (CJ.loc rfl)) ?_;refine lq (FY rfl rfl rfl) ?_;refine js rfl (λO=>?_) (λO=>?_)
 ·refine jp rfl ?_;refine Ai (jT (EF rfl (Ah (Af ?_))));iterate 4 refine jp rfl ?_
  refine Ai (jT (Bq (wJh (jBr (wJh (jBr ?_))))));refine AB (L':=U) (by simp) ?_;refine wSg rfl rfl rfl ?_;refine⟨r,0,rfl,.inr ⟨rfl,t,?_,b,i.mono C⟩⟩;rw[c];exact wMw a (by omega) O
 refine gg ?_;have ad:xs.length=1:=by omega
 obtain⟨x,rfl⟩:=List.length_eq_one_iff.1 ad;obtain⟨al,ap,F,G,aa⟩:∃ps:List Ir,[x].length<=nc/\SM Mn na (ps.flatMap Ae)/\ps.map (·.1)=[x]/\∀p∈ps,BS Mn p.2 p.1.val:=by obtain⟨_,_,ps,e,h1,h2,h3,h4⟩:=Z;cases e;exact⟨ps,h1,h2,h3,h4⟩
 obtain⟨sb,so,e0,hx⟩:=F.open (by intro e;have:=congrArg length e;rw[Aj Ae 5 Ag,length_nil]at this;have h2:=congrArg length G;rw[length_map,List.length_singleton]at h2;omega);cases e0;obtain⟨va,vc,ae,ao,am⟩:=Aw hx G aa (k:=0) (by simp);obtain⟨l,rfl⟩:∃l2,l=l2+1:=⟨l-1,by omega⟩;obtain⟨ys,j,V⟩:=Q x (by simp);have hb:8<=x.ref/\x.ref<256:=by have:=H.ref x (by simp);have:=H.up (by omega) x (by simp);omega
 obtain⟨n,rfl⟩:∃m,n=m+1:=⟨n-1,by omega⟩;rw[wUq a P]at c;refine lq (EV rfl rfl rfl rfl (by simp)) ?_;refine gg ?_;refine lq (Au rfl rfl rfl rfl ((ae 3 _ rfl).cj _)) ?_;refine gC (by have:=SI t x.ref.toNat y (by rw[b.2.1.1];omega) Mn U (i.mono C);rwa[show ((x.ref.toNat:Nat):Int)=x.ref by omega]at this) ?_;rintro _ Ms R2 aq ⟨rfl,ai⟩;refine jp rfl ?_;refine Ai (jT (Ah (Af ?_)));refine jp rfl ?_;refine js rfl (λu=>?_) (λu=>?_)
 ·refine gg ?_;refine AB (L':=R2) (by simp) ?_;refine wSg rfl rfl rfl ?_;refine⟨0,Bl t x.ref.toNat,rfl,.inl ⟨u,?_⟩⟩;rw[c];exact if_neg u
 refine gh ?_;have g:Bl t x.ref.toNat=0:=Classical.not_not.1 u;obtain⟨u9,f,ak,d,_⟩:=wFx b D hb a j g;refine gC (Hj (Bb t x.ref.toNat) r D (JT b (by omega)) y Ms R2 (ai g)) ?_;rintro _ Ml R3 au ac;obtain⟨e,rfl,J⟩:=LvPost.form ac;obtain⟨_,o⟩|⟨rfl,u8,K,E,N⟩:=J
 ·rw [f]at o;cases o
 rw[f]at K;cases K;refine jp rfl ?_;refine Ai (jT (Ah (Af ?_)));refine jp rfl ?_;refine jf rfl (decide_eq_false (by omega)) ?_;refine Ai (jT (DM rfl (Co (jT (Af ?_)))));iterate 2 refine jp rfl ?_
 refine Ai (jB ?_);rw[if_pos g,f]at c;refine BD ⟨n,u9,x.ref,l,ys,Ml,R3⟩ ⟨hb,E,N,?_,wBi a d (show (l:Int)<=((l+1:Nat):Int)by omega) V,c,by show l<n;omega⟩ (hs:=λw h=>h.dropAt.perm BE);show Ak u9 x.ref.toNat=_;rw[d _ (λe=>by rw[e,a]at j;cases j)];exact j
theorem NZ(r1 a:List Ir)(d c:Value)(b:Nat)(M:Mem)(n:RwS M d r1)(m:RwS M c a)(g:∀x∈r1,x.2.oneCell'=true)(f:∀x∈a,x.2.oneCell'=true)(l:r1.length+a.length<=1000000):
  SpecL prog 323 #[.slice (some ⟨b,0,none⟩) 2 2] M [(b,cE [d,c] 79)] λu M' e=>∃j,e=[(b,cE [d,c] 79)]++j/\Own u j IT 5 (r1.length+a.length) ((r1++a).flatMap Ae):=by
 have:=SpecL.lend (R:=[(b,cE [d,c] 79)]) (L:=[]) (post:=λu M' e=>Own u e IT 5 (r1.length+a.length) ((r1++a).flatMap Ae)) (λh i=>Ul r1 a d c b (Ev M [(b,cE [d,c] 79)]) (Gp h (p:=(b,_)) (by simp)) (n.mono (PJ i)) (m.mono (PJ i)) g f l);rw[List.append_nil]at this;refine this.mono ?_;rintro u M' e ⟨s,o,k,rfl,_⟩;exact⟨o,rfl,k⟩
def ZP(s:Sto)(w:Stp)(l:List It)(Lb:Lc)(u:Value)(M':Mem)(L':Lc):Prop:=∃a c,u=.tuple #[.slice a (AJ s w l).1.length c,.agg #[.int .i64 ((AJ s w l).2.1:Int),.int .i64 ((AJ s w l).2.2:Int)]]/\NS M' (.slice a (AJ s w l).1.length c) (AJ s w l).1/\L'=Lb
variable{M:Mem}{a:Option Addr}{c:Nat}
theorem wKo(h:NS M (.slice a xs.length c) xs):∃ps:List Ir,ps.map (·.1)=xs/\RwS M (.slice a xs.length c) ps/\(∀p∈ps,BS M p.2 p.1.val):=by
 obtain⟨k,j,ps,e,i,g,d,f⟩:=h;cases e;have b:ps.length=xs.length:=by rw[<-d,length_map]
 exact⟨ps,d,⟨a,c,by rw[b],by rw[b];exact i,g⟩,f⟩
theorem wUu(s:Sto)(y:It):(kid s y).length<=5:=by
 unfold kid;split
 ·rename_i lv a h;exact(Ar h).len
 exact Nat.zero_le _
variable{w:Stp}
theorem wBm{l:List It}(h:nxt w=none):AJ s w l=(l,w.at_,1):=by unfold AJ;rw[h]
theorem WA{l:List It}{p:Nat}(h:nxt w=some p)(a:p<w.xs.length):AJ s w l=if 5<(kid s w.xs[p]).length+l.length then (l,w.at_,1)else if p<w.at_ then (kid s w.xs[p]++l,p,2)else (l++kid s w.xs[p],w.at_,2):=by unfold AJ;rw[h];simp only[List.getElem?_eq_getElem a]
theorem wGd(s:Sto)(w:Stp)(l:List It)(P:Option Addr)(F:Nat)(H:Option Addr)(G:Nat)(Q:Nat)(M:Mem)(u:Lc)(ag:BOwn M Q u s)(V:Av s)(X:NS M (.slice P w.xs.length F) w.xs)(z:NS M (.slice H l.length G) l)(a1:w.at_<w.xs.length)(aq:w.xs.length<=5)(az:l.length<=100)(U:∀x∈w.xs,8<=x.ref/\x.ref<256):
  SpecL prog 275 #[pB Q,.agg #[.int .i64 w.lv,.slice P w.xs.length F,.int .i64 w.at_],.slice H l.length G] M u (ZP s w l u):=by
 refine sB func275 ntmps275 ?_;intro W;refine gh ?_;refine lh (Bt (cs:=[.int .i64 w.lv,.slice P w.xs.length F,.int .i64 w.at_]) rfl rfl rfl rfl) ?_;rintro _ _ _ ⟨b4,rfl,rfl,rfl⟩;refine jp rfl ?_;refine lh (AX rfl rfl) ?_;rintro _ _ _ ⟨b7,rfl,rfl,rfl⟩;refine Ai (jT (Ah (Af ?_)));refine lq (Ac rfl rfl rfl rfl rfl) ?_;refine lq (Au rfl rfl rfl rfl (CJ.loc rfl)) ?_;refine lq (BF (cs:=[_,_]) rfl rfl rfl (by rfl)) ?_;refine lh (AX rfl rfl) ?_;rintro _ _ _ ⟨S,rfl,rfl,rfl⟩;refine DE rfl (Ao rfl rfl rfl rfl rfl rfl rfl rfl) ?_;rintro _ _ _ ⟨rfl,rfl⟩;refine Ai (jT (Ah (Af ?_)));refine lq (Ac rfl rfl rfl rfl rfl) ?_;refine lq (Au rfl rfl rfl rfl (CJ.loc rfl)) ?_;refine ja rfl (by omega) ?_;refine jp rfl ?_;refine Ai (jT ?_);refine FO (α:=Int) (λp=>[(0,pB Q),(2,.slice H l.length G),(4,pB b4),(6,.slice none 0 0),(7,pB b7),(8,pB S),(9,.int .i64 p)]) (λ_=>M) (λ_=>(S,cE [.int .i64 w.at_,.int .i64 1] 374)::(b7,cE [.int .i64 0,.int .i64 0] 374)::(b4,cE [.int .i64 w.lv,.slice P w.xs.length F,.int .i64 w.at_] 368)::u) (λp=>(nxt w=none/\p= -1)\/∃k:Nat,nxt w=some k/\p=(k:Int)/\k<w.xs.length) ?_ ?_
 ·rintro p c;try dsimp only at c⊢
  refine Ah (Ah (Af ?_));refine jp rfl ?_;refine js rfl (λaj=>?_) (λaj=>?_)
  ·refine Ai (jT (EF rfl (Ah ?_)));refine D7 [0,1,2,103] [(S,cE [.int .i64 w.at_,.int .i64 1] 374)] ?_;refine dp rfl rfl ?_;refine dq rfl (HO rfl rfl rfl rfl rfl) ?_;refine dp rfl rfl ?_;refine DF rfl rfl (Ao rfl rfl rfl rfl rfl rfl rfl rfl) ?_;rintro _ _ _ ⟨rfl,rfl⟩;refine⟨_,_,MLe.refl _,(by first|exact MLe.refl _|exact a),λ_ h=>h,by simp,?_⟩;refine gh ?_;refine zd (u) rfl ?_;obtain⟨hn,_⟩|⟨k,_,rfl,_⟩:=c;rotate_left
   ·exfalso;omega
   have d:=wBm (s:=s) (l:=l) hn;refine⟨H,G,?_,?_,rfl⟩
   ·rw [d];rfl
   rw[d];exact z
  refine gh ?_;obtain⟨_,ax⟩|⟨k,Z,rfl,hk⟩:=c
  ·exfalso;omega
  obtain⟨a2,c2,ap,e,ay,Y,I,aa⟩:=id X;cases e;obtain⟨sb,so,e0,hx⟩:=Y.open (by intro e;have:=congrArg length e;rw[Aj Ae 5 Ag,length_nil]at this;have h2:=congrArg length I;rw[length_map]at h2;omega);cases e0;obtain⟨va,vc,ac,av,au⟩:=Aw hx I aa hk;have aw:=U _ (getElem_mem hk);refine gh ?_;refine lq (Au rfl rfl rfl rfl ((ac 3 _ rfl).cj _)) ?_;refine gC (by have:=NB s w.xs[k].ref.toNat Q (by omega) V M u ag;rwa[show ((w.xs[k].ref.toNat:Nat):Int)=w.xs[k].ref by omega]at this) ?_;rintro _ Mn a3 L ⟨ad,ae⟩;rw[ae];obtain⟨T,ka,kc,ke,rfl,ab⟩:=ad.kid;obtain⟨g,C,K,o⟩:=wKo ab;obtain⟨f,B,J,m⟩:=wKo (z.mono L);have n:g.length=(kid s w.xs[k]).length:=by rw[<-C,length_map]
  have j:f.length=l.length:=by rw[<-B,length_map]
  have a0:=wUu s w.xs[k];have d:=WA (s:=s) (l:=l) Z hk;refine gA λao=>?_;refine gj (λai=>?_) λai=>?_
  ·refine gh ?_;refine D7 [0,1,2,103] [(S,cE [.int .i64 w.at_,.int .i64 1] 374)] ?_;refine dp rfl rfl ?_;refine dq rfl (HO rfl rfl rfl rfl rfl) ?_;refine dp rfl rfl ?_;refine DF rfl rfl (Ao rfl rfl rfl rfl rfl rfl rfl rfl) ?_;rintro _ _ _ ⟨rfl,rfl⟩;refine⟨_,_,MLe.refl _,(by first|exact MLe.refl _|exact a),λ_ h=>h,by simp,?_⟩;refine gh ?_;refine zd (u) rfl ?_;rw[if_pos (by omega)]at d;refine⟨H,G,?_,?_,rfl⟩
   ·rw [d];rfl
   rw[d];exact z.mono L
  refine gj (λah=>?_) λah=>?_
  ·refine gh ?_;refine lh (Ab (cs:=[_,_]) rfl rfl rfl (by rfl) (by rfl) (by rfl)) ?_;rintro _ _ _ ⟨am,rfl,rfl,rfl⟩;refine gC (NZ g f _ _ am Mn K J (DD o) (DD m) (by omega)) ?_;rintro _ Mc R2 a ⟨R3,rfl,b⟩;obtain⟨O,N,D⟩:=b.form;subst D;rw[List.singleton_append,List.cons_append];refine gh ?_;refine LT (R:=R3) b (by simp +contextual) ?_;intro Mf af cf i ef E y;cases ef;refine zd (u) rfl ?_;rw[if_neg (by omega),if_pos (by omega)]at d;refine⟨O,N,?_,?_,rfl⟩
   ·rw [d];simp only[length_append,n,j];rfl
   rw[d];refine⟨O,N,g++f,rfl,?_,y,by rw[map_append,C,B],λp c=>?_⟩
   ·simp only[length_append,<-n,<-j];exact E
   rcases List.mem_append.1 c with c|c
   ·exact (o p c).mono (a.trans i)
   exact(m p c).mono (a.trans i)
  refine gh ?_;refine D7 [0,1,2,5,6,7,103,104,8,109] [(ao,cE [.int .i64 T,.slice ka (kid s w.xs[k]).length kc] 81),(b4,cE [.int .i64 w.lv,.slice (some ⟨sb,so,none⟩) w.xs.length F,.int .i64 w.at_] 368)] ?_;refine gh ?_;refine GP rfl rfl rfl (Ab (cs:=[_,_]) rfl rfl rfl (by rfl) (by rfl) (by rfl)) ?_;rintro _ _ _ ⟨al,rfl,rfl,rfl⟩;refine Cv (MLe.refl _) (λ_ h=>List.mem_cons_of_mem _ h) (by first|exact MLe.refl _|assumption) (by simp) ?_;refine dh rfl (hC (NZ f g _ _ al Mn J K (DD m) (DD o) (by omega))) ?_;rintro _ Mc _ ⟨a,R2,rfl,⟨R3,rfl,b⟩⟩;refine⟨a,by simp,?_⟩;obtain⟨O,N,D⟩:=b.form;subst D;rw[List.singleton_append,List.cons_append];refine dp rfl rfl ?_;refine DF rfl rfl (Ao rfl rfl rfl rfl rfl rfl rfl rfl) ?_;rintro _ _ _ ⟨rfl,rfl⟩;refine⟨_,_,MLe.refl _,(by first|exact MLe.refl _|exact a),λ_ h=>h,by simp,?_⟩;refine gh ?_;refine LT (R:=R3) b (by simp +contextual) ?_;intro Mf af cf i ef E y;cases ef;refine zd (u) rfl ?_;rw[if_neg (by omega),if_neg (by omega)]at d;refine⟨O,N,?_,?_,rfl⟩
  ·rw [d];simp only[length_append,n,j];rfl
  rw[d];refine⟨O,N,f++g,rfl,?_,y,by rw[map_append,C,B],λp c=>?_⟩
  ·simp only[length_append,<-n,<-j];exact E
  rcases List.mem_append.1 c with c|c
  ·exact (m p c).mono (a.trans i)
  exact(o p c).mono (a.trans i)
 refine gj (λak=>?_) λak=>?_
 ·refine gh ?_;refine Cx ((w.at_:Int)-1) (Keep.cons (t:=0) rfl (Keep.cons (t:=2) rfl (Keep.cons (t:=4) rfl (Keep.cons (t:=6) rfl (Keep.cons (t:=7) rfl (Keep.cons (t:=8) rfl (Keep.cons (t:=9) rfl Keep.nil))))))) ?_ (λw h=>h);by_cases h0:w.at_=0
  ·exact .inl ⟨by unfold nxt;rw[if_pos (by omega),if_pos h0],by omega⟩
  exact .inr ⟨w.at_-1,by unfold nxt;rw[if_pos (by omega),if_neg h0],by omega,by omega⟩
 refine gh ?_;refine Cx ((w.at_:Int)+1) (Keep.cons (t:=0) rfl (Keep.cons (t:=2) rfl (Keep.cons (t:=4) rfl (Keep.cons (t:=6) rfl (Keep.cons (t:=7) rfl (Keep.cons (t:=8) rfl (Keep.cons (t:=9) rfl Keep.nil))))))) ?_ (λw h=>h);exact .inr ⟨w.at_+1,by unfold nxt;rw[if_neg (by omega)],by omega,by omega⟩
end Go.Proofs.YtjheijhahehnmaaGreatDoor
