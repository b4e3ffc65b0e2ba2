/-
  The rules by which a walk is evaluated, under one name.
-/
import Derived.Test.YtocpeankecaabaaAbs13
set_option linter.all false
namespace Go.Abs
open Go.RowKit

attribute [go_sem] runA runO runD runDO pvO evO ofC AS.put putS effR AS.push AS.pushNil AS.pushes AS.grown kill kill_ite killO one both needO binV eqC binI unV convV loadV rowV faddrV fieldV partV iaddrV indexV sliceV optI lenV pickV AV.get AV.need AV.scalar AV.closedB AV.shift cellsOk AV.cell storeV srcV buildV placesL fillL putCells guardOf AV.asGuard TK.agg IntKind.signed AV.zeroOk Value.oneCell' needs InR resSub resA
attribute [go_sem] List.length_cons List.length_nil List.getD_cons_succ List.getD_cons_zero List.getD_nil List.set_cons_succ List.set_cons_zero List.getElem?_cons_succ List.getElem?_cons_zero List.getElem?_nil List.map_cons List.map_nil List.cons_append List.nil_append List.append_nil List.range List.range.loop List.all_cons List.all_nil List.mem_cons List.not_mem_nil List.replicate forall_eq_or_imp forall_eq List.mem_singleton Option.bind_some Option.bind_none Option.map_some Option.map_none Option.getD_some Option.getD_none Nat.zero_add Nat.add_zero Nat.zero_mul Nat.sub_zero Int.toNat_natCast Int.cast_ofNat_Int true_and and_true implies_true forall_const imp_self and_self Bool.cond_false_right Bool.cond_true_left Bool.cond_false_left Bool.cond_true_right Bool.and_true Bool.true_and Bool.and_self Bool.not_eq_true' Bool.not_true Bool.not_false decide_true decide_false false_and and_false not_true_eq_false not_false_eq_true ne_eq Nat.le_refl Nat.lt_irrefl Nat.zero_le or_true true_or or_false false_or Nat.not_lt_zero Nat.lt_add_one decide_eq_true_eq decide_eq_false_iff_not

end Go.Abs
