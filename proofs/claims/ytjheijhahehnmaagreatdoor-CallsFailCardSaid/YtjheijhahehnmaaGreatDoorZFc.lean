/- Plain laws: each step of a pool keeps its counts just so. No statement of the seat is proved here. -/
import Derived.Test.YtjheijhahehnmaaGreatDoorZShv
import Derived.ScopeJumps
import Derived.Test.YtjheijhahehnmaaGreatDoorZHn
import Derived.Test.YtjheijhahehnmaaGreatDoorZUp
import Derived.Test.YtjheijhahehnmaaGreatDoorZTake
import Derived.Test.YtjheijhahehnmaaGreatDoorZDelf
import Derived.Test.YtjheijhahehnmaaGreatDoorZHl
import Derived.Test.YtjheijhahehnmaaGreatDoorZDelg
namespace Go.Proofs.YtjheijhahehnmaaGreatDoor
set_option linter.unusedSimpArgs false
set_option linter.unusedVariables false
set_option linter.unusedSectionVars false
set_option maxHeartbeats 40000000
set_option maxRecDepth 8000
open Go.RowKit
def wWm{α:Type}(N:Fs)(E:Ent)(Fi:α->Fr)(Mi:α->Mem)(Li:α->Lc)(φ:α->Prop)(μ:α->Nat)(b:Nat)(a:Act)(w:World):Prop:=∃y,φ y/\μ y<b/\Has N (Fi y) a/\St E (Mi y) (Li y) w
theorem QD{p:Nat->Prop}(h:∃m,p m):∃m,p m/\∀k,p k->m<=k:=by
 obtain⟨m,c⟩:=h;induction m using Nat.strongRecOn with
 |_ m b=>
  by_cases a:∃k,k<m/\p k
  ·obtain ⟨k,g,f⟩:=a;exact b k g f
  exact⟨m,c,λk e=>Nat.le_of_not_lt λd=>a ⟨k,d,e⟩⟩
noncomputable def jmpM {α:Type} (N:Fs) (E:Ent) (Fi:α->Fr) (Mi:α->Mem) (Li:α->Lc) (φ:α->Prop) (μ:α->Nat) (a:Act) (w:World):Nat:=@dite _ (∃m,wWm N E Fi Mi Li φ μ m a w) (Classical.propDecidable _) (λh=>(QD h).choose) λ_=>0
variable{D:List Deferred}{E:Ent}{F:Fr}{L:Lc}{M:Mem}{P:Program}{Q:Exit->Act->World->Prop}{c:Code}{n:Nat}{α:Type}
theorem wGf{i:Code}(l:Nat)(o:α->Fr)(j:α->Mem)(k:α->Lc)(g:α->Prop)(h:α->Nat)(b:Nat)(J:findLabel c l=some i)
  (first:JC P ⟨n,D,none⟩ c F E M L (Exit.jump l (wWm ⟨n,D,none⟩ E o j k g h b) Q))
  (s:∀x,g x->JC P ⟨n,D,none⟩ i (o x) E (j x) (k x) (Exit.jump l (wWm ⟨n,D,none⟩ E o j k g h (h x)) Q)):JC P ⟨n,D,none⟩ (.scope c) F E M L Q:=λa w K H=>by
 refine(wpIn_wide (n:=0)).2 (wp_scope_jumps l (λa w=>∃m,wWm ⟨n,D,none⟩ E o j k g h m a w) (jmpM ⟨n,D,none⟩ E o j k g h) J ?_ λa w B=>?_)
 ·refine (wpIn_wide (n:=0)).1 (wpIn_mono (first a w K H) λe C u d=>?_)
  cases e with
  |goto G=>exact⟨d.1,b,d.2⟩
  |_=>exact d
 classical
 have I:jmpM ⟨n,D,none⟩ E o j k g h a w=(QD B).choose:=dif_pos B
 obtain⟨⟨y,S,R,O,N⟩,_⟩:=(QD B).choose_spec
 refine(wpIn_wide (n:=0)).1 (wpIn_mono (s y S a w O N) λe C u d=>?_)
 cases e with
 |goto G=>
  obtain⟨T,d⟩:=d
  have f:∃m,wWm ⟨n,D,none⟩ E o j k g h m C u:=⟨_,d⟩
  have z:jmpM ⟨n,D,none⟩ E o j k g h C u=(QD f).choose:=dif_pos f
  refine⟨T,f,?_⟩
  rw[I,z]
  exact Nat.lt_of_le_of_lt ((QD f).choose_spec.2 _ d) R
 |_=>exact d
theorem YX{a:Code}(l:Nat)(i:α->Fr)(g:α->Mem)(h:α->Lc)(f:α->Prop)(e:α->Nat)(b:Nat)(m:findLabel c l=some (.seq .skip a))
  (d:∀x k,f x->e x<=k->JC P ⟨n,D,none⟩ a (i x) E (g x) (h x) (Exit.jump l (wWm ⟨n,D,none⟩ E i g h f e k) Q))
  (first:(∀x,f x->e x<=b->JC P ⟨n,D,none⟩ a (i x) E (g x) (h x) (Exit.jump l (wWm ⟨n,D,none⟩ E i g h f e b) Q))->JC P ⟨n,D,none⟩ c F E M L (Exit.jump l (wWm ⟨n,D,none⟩ E i g h f e b) Q)):JC P ⟨n,D,none⟩ (.scope c) F E M L Q:=
 wGf l i g h f e b m (first λx j o=>d x b j o) λx j=>Ah (Co (jT (d x (e x) j (Nat.le_refl _))))
variable{N:Fs}{l:Nat}{Fi:α->Fr}{Li:α->Lc}{Mi:α->Mem}{μ:α->Nat}{φ:α->Prop}
theorem wNq{b:Nat}(y:α)(hk:Keep F (Fi y))(a:φ y)(d:μ y<b)(hs:∀w,St E M L w->St E (Mi y) (Li y) w):JQ N (.goto l) F E M L (Exit.jump l (wWm N E Fi Mi Li φ μ b) Q):=λ_ w e c=>⟨rfl,y,a,d,e.keep hk,hs w c⟩
variable{J:Act->World->Prop}{e:Exit}
theorem jJ(c:∀l,e≠.goto l)(h:JQ N e F E M L Q):JQ N e F E M L (Exit.jump l J Q):=λa w d b=>by
 cases e<;>first|exact absurd rfl (c _)|exact h a w d b
section
variable{P:Program}{N:Fs}{F:Fr}{E:Ent}{M:Mem}{L:Lc}{Q:Exit->Act->World->Prop}
theorem wBn{l:Nat}(h:JQ N (.goto l) F E M L Q):JC P N (.goto l) F E M L Q:=λa w c b=>wpIn_goto (h a w c b)
end
def GC(xs:List It)(k:Nat):Int:=((xs.filter λx=>decide (x.ref=(k:Int)/\x.ref≠0)).length:Int)
def cnt(s:Sto)(n k:Nat):Int:=match Ak s n with|some (_,xs)=>GC xs k|none=>0
def sg(s:Sto)(p:List Int)(k:Nat):Int:=((List.range 256).map λn=>if 0<p.getD n 0 then cnt s n k else 0).sum
def TK(p:Po):List Vo:=(AT p.st p.root).map CG
def Be(p:Po):List Int:=Ec p.root p.dead (TK p)
structure Fine(p:Po)(S:List Nat)(hs:List Int):Prop where
 en:En p.st S (hs++Be p)
 ins:∀r∈Be p,(8<=r/\r<256)/\r.toNat∈S/\(AQ p.st r).2=0
 vol:∀x∈AT p.st p.root,Dz x/\x.key.id≠0/\x.key.id<p.next
 few:(AT p.st p.root).length<=16
 dead:p.dead.length<=40
 next:0<=p.next/\p.next<4294967296
 gen:0<=p.gen
abbrev Fb(p:Po)(t:Sto):Po:=⟨t,p.gen,p.root,p.next,p.dead⟩
theorem P6{r:Except Int Po}{q:Po}(h:P7 r=.ok q):r=.ok q:=by
 cases r with
 |error e=>cases h
 |ok p=>
  by_cases a:F6 p.st
  ·rw [Ym a]at h;exact h
  rw[Yn a]at h;cases h
end Go.Proofs.YtjheijhahehnmaaGreatDoor
