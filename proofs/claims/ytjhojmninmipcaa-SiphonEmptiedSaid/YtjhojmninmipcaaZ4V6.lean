/-
  Sorting rows of numbers: the rounds of pdqsort, the whole.
-/
import Derived.Test.YtjhojmninmipcaaZ4V5
set_option linter.all false
namespace Go.Proofs.Ytjhojmninmipcaa
open Go.K Go.M
abbrev RcT:Type:=((Unit×Int×Int×Int×(Unit)×Unit)×(Rw×Unit))→Option Rw
abbrev PqS:Type:=Int×Int×Int×Bool×Bool×Rw
abbrev PqR:Type:=LR PqS Unit Rw
def Good (a b:Nat) (d:Rw):PqR→Prop
 | .ret d' => Sort.PermIn a b d.toArray d'.toArray∧Sort.SortedIn ltL a b d'.toArray
 | .done _ => False
 | .next s => ∃ a' b' l':Nat,s.1=(a':Int)∧s.2.1=(b':Int)∧s.2.2.1=(l':Int)∧l'≤1000∧a'≤b'∧b'≤d.length∧b' - a' < b - a∧s.2.2.2.2.2.length=d.length∧Sh s.2.2.2.2.2∧Sort.Below ltL a' b' s.2.2.2.2.2.toArray∧∀ R:Array (List Int),Sort.PermIn a' b' s.2.2.2.2.2.toArray R→Sort.SortedIn ltL a' b' R→Sort.PermIn a b d.toArray R∧Sort.SortedIn ltL a b R
theorem Good.trans {a b:Nat} {d e:Rw} (hp:Sort.PermIn a b d.toArray e.toArray):∀ {o:PqR},Good a b e o→Good a b d o
 | .ret _, h => ⟨Sort.permIn_trans _ _ _ a b hp h.1,h.2⟩
 | .done _, h => h
 | .next _, ⟨a', b', l', h1, h2, h3, h4, h5, h6, h7, h8, h9, h10, h11⟩ => by
   have:=q113 hp
   exact ⟨a',b',l',h1,h2,h3,h4,h5,by omega,h7,by omega,h9,h10,fun R hR hs=>⟨Sort.permIn_trans _ _ _ a b hp (h11 R hR hs).1,(h11 R hR hs).2⟩⟩
def RecOk (rec:RcT) (N:Nat):Prop:=∀ (a b l:Nat) (d:Rw),Sh d→a≤b→b≤d.length→d.length < 4096→l≤1000→b - a < N→Sort.Below ltL a b d.toArray →
 ∃ d',rec (((),(a:Int),(b:Int),(l:Int),(()),()),(d,()))=some d'∧Sort.PermIn a b d.toArray d'.toArray∧Sort.SortedIn ltL a b d'.toArray
end Go.Proofs.Ytjhojmninmipcaa
