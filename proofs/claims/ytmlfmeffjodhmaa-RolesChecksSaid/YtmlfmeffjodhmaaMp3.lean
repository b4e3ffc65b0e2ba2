/-
  The functions compute what their models say. Made by program (mg3.py) out of the translation.
-/
import Derived.Test.YtmlfmeffjodhmaaMd
import Derived.Test.YtmlfmeffjodhmaaTt
set_option linter.all false
set_option maxRecDepth 100000
namespace Go.Proofs.Ytmlfmeffjodhmaa
open Go.K Go.M

/-! casebook/casebooklaw46.example -/

def law46_exampleR_ : Shp := ⟨[(0, .agg (.cons (.d true (.slice Person.ty)) (.cons (.d true (.slice Delegation.ty)) (.cons (.d true (.slice Duty.ty)) .nil))))], []⟩

noncomputable abbrev law46_exampleX : Ctx (((List Person) × (List Delegation) × (List Duty))) := ⟨12, tt, false, [], gam [], lam [], resU 12 tt [] [.cell 0 26] law46_exampleR_ (fun (x : ((((List Person) × (List Delegation) × (List Duty) × Unit) × Unit) × (Unit))) => (x.1.1.1, x.1.1.2.1, x.1.1.2.2.1))⟩

theorem law46_exampleG : CtxOK Try.prog law46_exampleX := ⟨fits, gam_ok (AllM.all (l := []) trivial)⟩

noncomputable abbrev law46_exampleM : Mdl := (mdlOf .nil [] [] 1 law46_exampleR_ (fun (b : ((List Person) × (List Delegation) × (List Duty))) => (((b.1, b.2.1, b.2.2, ()), ()), (()))) (fun (a : ((Unit) × (Unit))) => law46_example ))

theorem law46_example_ok : MdlOK Try.prog 34 law46_exampleM :=
  fn_ok (c := (bodyOf Try.f34)) Try.func34 (by rfl) (by kernel_rfl) (X := law46_exampleX) (by kernel_rfl) (rs := [.cell 0 26]) (by kernel_rfl) (sh := law46_exampleR_) (un := (fun (x : ((((List Person) × (List Delegation) × (List Duty) × Unit) × Unit) × (Unit))) => (x.1.1.1, x.1.1.2.1, x.1.1.2.2.1))) (mk := (fun (b : ((List Person) × (List Delegation) × (List Duty))) => (((b.1, b.2.1, b.2.2, ()), ()), (())))) (fun _ => rfl) rfl (law46_exampleG) mixed (ann := .z) (AllS.all (l := []) (by kernel_rfl) trivial) (Nat.le_of_ble_eq_true (by kernel_rfl)) (by kernel_rfl) (fun a => by kernel_rfl)

/-! casebook/name.letter -/

def name_letterR_ : Shp := ⟨[(0, .d true .bool)], []⟩

noncomputable abbrev name_letterX : Ctx (Bool) := ⟨17, tt, false, [], gam [], lam [], resU 17 tt [] [.tmp 2] name_letterR_ (fun (x : ((Bool × Unit) × (Unit))) => x.1.1)⟩

theorem name_letterG : CtxOK Try.prog name_letterX := ⟨fits, gam_ok (AllM.all (l := []) trivial)⟩

noncomputable abbrev name_letterM : Mdl := (mdlOf (.cons (.d false (.int .u8)) .nil) [] [] 1 name_letterR_ (fun (b : Bool) => ((b, ()), (()))) (fun (a : ((Int × Unit) × (Unit))) => name_letter a.1.1))

theorem name_letter_ok : MdlOK Try.prog 92 name_letterM :=
  fn_ok (c := (bodyOf Try.f92)) Try.func92 (by rfl) (by kernel_rfl) (X := name_letterX) (by kernel_rfl) (rs := [.tmp 2]) (by kernel_rfl) (sh := name_letterR_) (un := (fun (x : ((Bool × Unit) × (Unit))) => x.1.1)) (mk := (fun (b : Bool) => ((b, ()), (())))) (fun _ => rfl) rfl (name_letterG) mixed (ann := .z) (AllS.all (l := []) (by kernel_rfl) trivial) (Nat.le_of_ble_eq_true (by kernel_rfl)) (by kernel_rfl) (fun a => by kernel_rfl)

/-! casebook/name.part -/

def name_partR_ : Shp := ⟨[(0, .d true .bool)], []⟩

noncomputable abbrev name_partX : Ctx (Bool) := ⟨25, tt, false, [], gam [(92, name_letterM)], lam [], resU 25 tt [] [.tmp 2] name_partR_ (fun (x : ((Bool × Unit) × (Unit))) => x.1.1)⟩

theorem name_partG : CtxOK Try.prog name_partX := ⟨fits, gam_ok (AllM.all (l := [(92, name_letterM)]) ⟨name_letter_ok, trivial⟩)⟩

noncomputable abbrev name_partM : Mdl := (mdlOf (.cons (.d false (.int .u8)) .nil) [] [] 1 name_partR_ (fun (b : Bool) => ((b, ()), (()))) (fun (a : ((Int × Unit) × (Unit))) => name_part a.1.1))

theorem name_part_ok : MdlOK Try.prog 93 name_partM :=
  fn_ok (c := (bodyOf Try.f93)) Try.func93 (by rfl) (by kernel_rfl) (X := name_partX) (by kernel_rfl) (rs := [.tmp 2]) (by kernel_rfl) (sh := name_partR_) (un := (fun (x : ((Bool × Unit) × (Unit))) => x.1.1)) (mk := (fun (b : Bool) => ((b, ()), (())))) (fun _ => rfl) rfl (name_partG) mixed (ann := .z) (AllS.all (l := []) (by kernel_rfl) trivial) (Nat.le_of_ble_eq_true (by kernel_rfl)) (by kernel_rfl) (fun a => by kernel_rfl)

/-! casebook/name.IsName -/

def name_IsNameR_ : Shp := ⟨[(0, .d true .bool)], []⟩

noncomputable abbrev name_IsNameX : Ctx (Bool) := ⟨29, tt, false, [], gam [(92, name_letterM), (93, name_partM)], lam [loopSumm (Bool) 29 [] name_IsNameL0I (C := (ByteArray × Int)) (S := Int) (fun (x : ((ByteArray × Int × Int × Unit) × (Unit))) => ((x.1.1, x.1.2.1), x.1.2.2.1)) name_IsNameL0E (CE := Unit) (E := Unit) (fun (c : Unit) (e : Unit) => ((()), (()))) (fun (c : (ByteArray × Int)) => ()) (fun {R} c a nx dn rt => name_IsNameL0K c.1 c.2 a nx dn rt)], resU 29 tt [] [.tmp 2] name_IsNameR_ (fun (x : ((Bool × Unit) × (Unit))) => x.1.1)⟩

theorem name_IsNameG : CtxOK Try.prog name_IsNameX := ⟨fits, gam_ok (AllM.all (l := [(92, name_letterM), (93, name_partM)]) ⟨name_letter_ok, name_part_ok, trivial⟩)⟩

theorem name_IsNameS0 : SummOK Try.prog name_IsNameX 0 (.block 0 (.loop (subC (bodyOf Try.f64) [true, true, false, true, false, false]))) :=
  loop_ok (shI := name_IsNameL0I) (shE := name_IsNameL0E) (C := (ByteArray × Int)) (S := Int) (CE := Unit) (E := Unit) (name_IsNameG) mixed (ann := .z) (AllS.all (l := []) (by kernel_rfl) trivial) (mk := (fun (c : (ByteArray × Int)) (a : Int) => ((c.1, c.2, a, ()), (())))) (unE := (fun (y : ((Unit) × (Unit))) => ((), ()))) rfl (fun _ => rfl) (fun _ => rfl) (fun R K D T c a => by kernel_rfl)

noncomputable abbrev name_IsNameM : Mdl := (mdlOf (.cons (.d false .str) .nil) [] [] 1 name_IsNameR_ (fun (b : Bool) => ((b, ()), (()))) (fun (a : ((ByteArray × Unit) × (Unit))) => name_IsName a.1.1))

theorem name_IsName_ok : MdlOK Try.prog 64 name_IsNameM :=
  fn_ok (c := (bodyOf Try.f64)) Try.func64 (by rfl) (by kernel_rfl) (X := name_IsNameX) (by kernel_rfl) (rs := [.tmp 2]) (by kernel_rfl) (sh := name_IsNameR_) (un := (fun (x : ((Bool × Unit) × (Unit))) => x.1.1)) (mk := (fun (b : Bool) => ((b, ()), (())))) (fun _ => rfl) rfl (name_IsNameG) mixed (ann := (.two .z (.two .z (.two (.two .z (.s 0)) .z)))) (AllS.all (l := [(0, .block 0 (.loop (subC (bodyOf Try.f64) [true, true, false, true, false, false])))]) (by kernel_rfl) ⟨name_IsNameS0, trivial⟩) (Nat.le_of_ble_eq_true (by kernel_rfl)) (by kernel_rfl) (fun a => by kernel_rfl)

/-! casebook/name.Alphabet -/

def name_AlphabetR_ : Shp := ⟨[(0, .d true .bool)], []⟩

noncomputable abbrev name_AlphabetX : Ctx (Bool) := ⟨32, tt, false, [], gam [(64, name_IsNameM)], lam [loopSumm (Bool) 32 [] name_AlphabetL0I (C := ((List ByteArray) × (List ByteArray) × Int)) (S := Int) (fun (x : (((List ByteArray) × (List ByteArray) × Int × Int × Unit) × (Unit))) => ((x.1.1, x.1.2.1, x.1.2.2.1), x.1.2.2.2.1)) name_AlphabetL0E (CE := Unit) (E := Unit) (fun (c : Unit) (e : Unit) => ((()), (()))) (fun (c : ((List ByteArray) × (List ByteArray) × Int)) => ()) (fun {R} c a nx dn rt => name_AlphabetL0K c.1 c.2.1 c.2.2 a nx dn rt)], resU 32 tt [] [.tmp 2] name_AlphabetR_ (fun (x : ((Bool × Unit) × (Unit))) => x.1.1)⟩

theorem name_AlphabetG : CtxOK Try.prog name_AlphabetX := ⟨fits, gam_ok (AllM.all (l := [(64, name_IsNameM)]) ⟨name_IsName_ok, trivial⟩)⟩

theorem name_AlphabetS0 : SummOK Try.prog name_AlphabetX 0 (.block 0 (.loop (subC (bodyOf Try.f91) [true, true, false, true, false, false]))) :=
  loop_ok (shI := name_AlphabetL0I) (shE := name_AlphabetL0E) (C := ((List ByteArray) × (List ByteArray) × Int)) (S := Int) (CE := Unit) (E := Unit) (name_AlphabetG) mixed (ann := .z) (AllS.all (l := []) (by kernel_rfl) trivial) (mk := (fun (c : ((List ByteArray) × (List ByteArray) × Int)) (a : Int) => ((c.1, c.2.1, c.2.2, a, ()), (())))) (unE := (fun (y : ((Unit) × (Unit))) => ((), ()))) rfl (fun _ => rfl) (fun _ => rfl) (fun R K D T c a => by kernel_rfl)

noncomputable abbrev name_AlphabetM : Mdl := (mdlOf (.cons (.d false (.slice .str)) .nil) [] [] 1 name_AlphabetR_ (fun (b : Bool) => ((b, ()), (()))) (fun (a : (((List ByteArray) × Unit) × (Unit))) => name_Alphabet a.1.1))

theorem name_Alphabet_ok : MdlOK Try.prog 91 name_AlphabetM :=
  fn_ok (c := (bodyOf Try.f91)) Try.func91 (by rfl) (by kernel_rfl) (X := name_AlphabetX) (by kernel_rfl) (rs := [.tmp 2]) (by kernel_rfl) (sh := name_AlphabetR_) (un := (fun (x : ((Bool × Unit) × (Unit))) => x.1.1)) (mk := (fun (b : Bool) => ((b, ()), (())))) (fun _ => rfl) rfl (name_AlphabetG) mixed (ann := (.two .z (.two .z (.two (.two .z (.s 0)) .z)))) (AllS.all (l := [(0, .block 0 (.loop (subC (bodyOf Try.f91) [true, true, false, true, false, false])))]) (by kernel_rfl) ⟨name_AlphabetS0, trivial⟩) (Nat.le_of_ble_eq_true (by kernel_rfl)) (by kernel_rfl) (fun a => by kernel_rfl)

/-! casebook/roles.people -/

def roles_peopleR_ : Shp := ⟨[(0, .d true .bool)], []⟩

noncomputable abbrev roles_peopleX : Ctx (Bool) := ⟨41, tt, false, [], gam [(64, name_IsNameM), (91, name_AlphabetM)], lam [loopSumm (Bool) 41 [] roles_peopleL0I (C := ((List Person) × (List Person) × Int)) (S := Int) (fun (x : (((List Person) × (List Person) × Int × Int × Unit) × (Unit))) => ((x.1.1, x.1.2.1, x.1.2.2.1), x.1.2.2.2.1)) roles_peopleL0E (CE := (List Person)) (E := Unit) (fun (c : (List Person)) (e : Unit) => ((c, ()), (()))) (fun (c : ((List Person) × (List Person) × Int)) => c.1) (fun {R} c a nx dn rt => roles_peopleL0K c.1 c.2.1 c.2.2 a nx dn rt)], resU 41 tt [] [.tmp 2] roles_peopleR_ (fun (x : ((Bool × Unit) × (Unit))) => x.1.1)⟩

theorem roles_peopleG : CtxOK Try.prog roles_peopleX := ⟨fits, gam_ok (AllM.all (l := [(64, name_IsNameM), (91, name_AlphabetM)]) ⟨name_IsName_ok, name_Alphabet_ok, trivial⟩)⟩

theorem roles_peopleS0 : SummOK Try.prog roles_peopleX 0 (.block 0 (.loop (subC (bodyOf Try.f62) [true, false, true, false, false]))) :=
  loop_ok (shI := roles_peopleL0I) (shE := roles_peopleL0E) (C := ((List Person) × (List Person) × Int)) (S := Int) (CE := (List Person)) (E := Unit) (roles_peopleG) mixed (ann := (.two .z (.two .z (.two (.one (.two .z (.two (.d [0, 1, 3, 7, 15, 31, 63, 127, 255, 255, 767, 2047, 4095, 8191, 255, 16639, 65535, 131071, 262143, 524287, 1048575, 2097151, 4194303, 8388607, 16777215] [] []) .z))) .z)))) (AllS.all (l := []) (by kernel_rfl) trivial) (mk := (fun (c : ((List Person) × (List Person) × Int)) (a : Int) => ((c.1, c.2.1, c.2.2, a, ()), (())))) (unE := (fun (y : (((List Person) × Unit) × (Unit))) => (y.1.1, ()))) rfl (fun _ => rfl) (fun _ => rfl) (fun R K D T c a => by kernel_rfl)

noncomputable abbrev roles_peopleM : Mdl := (mdlOf (.cons (.d false (.slice Person.ty)) .nil) [] [] 1 roles_peopleR_ (fun (b : Bool) => ((b, ()), (()))) (fun (a : (((List Person) × Unit) × (Unit))) => roles_people a.1.1))

theorem roles_people_ok : MdlOK Try.prog 62 roles_peopleM :=
  fn_ok (c := (bodyOf Try.f62)) Try.func62 (by rfl) (by kernel_rfl) (X := roles_peopleX) (by kernel_rfl) (rs := [.tmp 2]) (by kernel_rfl) (sh := roles_peopleR_) (un := (fun (x : ((Bool × Unit) × (Unit))) => x.1.1)) (mk := (fun (b : Bool) => ((b, ()), (())))) (fun _ => rfl) rfl (roles_peopleG) mixed (ann := (.two .z (.two (.two .z (.s 0)) .z))) (AllS.all (l := [(0, .block 0 (.loop (subC (bodyOf Try.f62) [true, false, true, false, false])))]) (by kernel_rfl) ⟨roles_peopleS0, trivial⟩) (Nat.le_of_ble_eq_true (by kernel_rfl)) (by kernel_rfl) (fun a => by kernel_rfl)

/-! casebook/roles.find$1 -/

def roles_find_1R_ : Shp := ⟨[(0, .d true .bool)], []⟩

noncomputable abbrev roles_find_1X : Ctx (Bool) := ⟨8, tt, false, [], gam [], lam [], resU 8 tt [] [.tmp 3] roles_find_1R_ (fun (x : ((Bool × Unit) × (Unit))) => x.1.1)⟩

theorem roles_find_1G : CtxOK Try.prog roles_find_1X := ⟨fits, gam_ok (AllM.all (l := []) trivial)⟩

noncomputable abbrev roles_find_1M : Mdl := (mdlOf (.cons (.d false Person.ty) (.cons (.rp false .str) .nil)) [] [] 1 roles_find_1R_ (fun (b : Bool) => ((b, ()), (()))) (fun (a : ((Person × ByteArray × Unit) × (Unit))) => roles_find_1 a.1.1 a.1.2.1))

theorem roles_find_1_ok : MdlOK Try.prog 82 roles_find_1M :=
  fn_ok (c := (bodyOf Try.f82)) Try.func82 (by rfl) (by kernel_rfl) (X := roles_find_1X) (by kernel_rfl) (rs := [.tmp 3]) (by kernel_rfl) (sh := roles_find_1R_) (un := (fun (x : ((Bool × Unit) × (Unit))) => x.1.1)) (mk := (fun (b : Bool) => ((b, ()), (())))) (fun _ => rfl) rfl (roles_find_1G) mixed (ann := .z) (AllS.all (l := []) (by kernel_rfl) trivial) (Nat.le_of_ble_eq_true (by kernel_rfl)) (by kernel_rfl) (fun a => by kernel_rfl)

/-! slices.IndexFunc[[]casebook/api.Person,casebook/api.Person] -/

def slices_IndexFunc_api_Person_api_Person_82R_ : Shp := ⟨[(0, .d true (.int .i64))], []⟩

noncomputable abbrev slices_IndexFunc_api_Person_api_Person_82X : Ctx (Int) := ⟨19, tt, false, [], gam [(82, roles_find_1M)], lam [loopSumm (Int) 19 [] slices_IndexFunc_api_Person_api_Person_82L0I (C := ((List Person) × ByteArray × Int)) (S := Int) (fun (x : (((List Person) × (ByteArray × Unit) × Int × Int × Unit) × (Unit))) => ((x.1.1, x.1.2.1.1, x.1.2.2.1), x.1.2.2.2.1)) slices_IndexFunc_api_Person_api_Person_82L0E (CE := Unit) (E := Unit) (fun (c : Unit) (e : Unit) => ((()), (()))) (fun (c : ((List Person) × ByteArray × Int)) => ()) (fun {R} c a nx dn rt => slices_IndexFunc_api_Person_api_Person_82L0K c.1 c.2.1 c.2.2 a nx dn rt)], resU 19 tt [] [.tmp 4] slices_IndexFunc_api_Person_api_Person_82R_ (fun (x : ((Int × Unit) × (Unit))) => x.1.1)⟩

theorem slices_IndexFunc_api_Person_api_Person_82G : CtxOK Try.prog slices_IndexFunc_api_Person_api_Person_82X := ⟨fits, gam_ok (AllM.all (l := [(82, roles_find_1M)]) ⟨roles_find_1_ok, trivial⟩)⟩

theorem slices_IndexFunc_api_Person_api_Person_82S0 : SummOK Try.prog slices_IndexFunc_api_Person_api_Person_82X 0 (.block 0 (.loop (subC (bodyOf Try.f77) [true, false, true, false, false]))) :=
  loop_ok (shI := slices_IndexFunc_api_Person_api_Person_82L0I) (shE := slices_IndexFunc_api_Person_api_Person_82L0E) (C := ((List Person) × ByteArray × Int)) (S := Int) (CE := Unit) (E := Unit) (slices_IndexFunc_api_Person_api_Person_82G) mixed (ann := .z) (AllS.all (l := []) (by kernel_rfl) trivial) (mk := (fun (c : ((List Person) × ByteArray × Int)) (a : Int) => ((c.1, (c.2.1, ()), c.2.2, a, ()), (())))) (unE := (fun (y : ((Unit) × (Unit))) => ((), ()))) rfl (fun _ => rfl) (fun _ => rfl) (fun R K D T c a => by kernel_rfl)

noncomputable abbrev slices_IndexFunc_api_Person_api_Person_82M : Mdl := (mdlOf (.cons (.d false (.slice Person.ty)) (.cons (.fn 82 (.cons (.rp false .str) .nil)) .nil)) [] [] 1 slices_IndexFunc_api_Person_api_Person_82R_ (fun (b : Int) => ((b, ()), (()))) (fun (a : (((List Person) × (ByteArray × Unit) × Unit) × (Unit))) => slices_IndexFunc_api_Person_api_Person_82 a.1.1 a.1.2.1.1))

theorem slices_IndexFunc_api_Person_api_Person_82_ok : MdlOK Try.prog 77 slices_IndexFunc_api_Person_api_Person_82M :=
  fn_ok (c := (bodyOf Try.f77)) Try.func77 (by rfl) (by kernel_rfl) (X := slices_IndexFunc_api_Person_api_Person_82X) (by kernel_rfl) (rs := [.tmp 4]) (by kernel_rfl) (sh := slices_IndexFunc_api_Person_api_Person_82R_) (un := (fun (x : ((Int × Unit) × (Unit))) => x.1.1)) (mk := (fun (b : Int) => ((b, ()), (())))) (fun _ => rfl) rfl (slices_IndexFunc_api_Person_api_Person_82G) mixed (ann := (.two .z (.two (.two .z (.s 0)) .z))) (AllS.all (l := [(0, .block 0 (.loop (subC (bodyOf Try.f77) [true, false, true, false, false])))]) (by kernel_rfl) ⟨slices_IndexFunc_api_Person_api_Person_82S0, trivial⟩) (Nat.le_of_ble_eq_true (by kernel_rfl)) (by kernel_rfl) (fun a => by kernel_rfl)

/-! casebook/roles.find -/

def roles_findR_ : Shp := ⟨[(0, .d true (.int .i64))], []⟩

noncomputable abbrev roles_findX : Ctx (Int) := ⟨9, tt, false, [], gam [(77, slices_IndexFunc_api_Person_api_Person_82M)], lam [], resU 9 tt [] [.tmp 4] roles_findR_ (fun (x : ((Int × Unit) × (Unit))) => x.1.1)⟩

theorem roles_findG : CtxOK Try.prog roles_findX := ⟨fits, gam_ok (AllM.all (l := [(77, slices_IndexFunc_api_Person_api_Person_82M)]) ⟨slices_IndexFunc_api_Person_api_Person_82_ok, trivial⟩)⟩

noncomputable abbrev roles_findM : Mdl := (mdlOf (.cons (.d false Org.ty) (.cons (.d false .str) .nil)) [] [] 1 roles_findR_ (fun (b : Int) => ((b, ()), (()))) (fun (a : ((Org × ByteArray × Unit) × (Unit))) => roles_find a.1.1 a.1.2.1))

theorem roles_find_ok : MdlOK Try.prog 46 roles_findM :=
  fn_ok (c := (bodyOf Try.f46)) Try.func46 (by rfl) (by kernel_rfl) (X := roles_findX) (by kernel_rfl) (rs := [.tmp 4]) (by kernel_rfl) (sh := roles_findR_) (un := (fun (x : ((Int × Unit) × (Unit))) => x.1.1)) (mk := (fun (b : Int) => ((b, ()), (())))) (fun _ => rfl) rfl (roles_findG) mixed (ann := .z) (AllS.all (l := []) (by kernel_rfl) trivial) (Nat.le_of_ble_eq_true (by kernel_rfl)) (by kernel_rfl) (fun a => by kernel_rfl)

/-! casebook/clock.ValidSpan -/

def clock_ValidSpanR_ : Shp := ⟨[(0, .d true .bool)], []⟩

noncomputable abbrev clock_ValidSpanX : Ctx (Bool) := ⟨18, tt, false, [], gam [], lam [], resU 18 tt [] [.tmp 2] clock_ValidSpanR_ (fun (x : ((Bool × Unit) × (Unit))) => x.1.1)⟩

theorem clock_ValidSpanG : CtxOK Try.prog clock_ValidSpanX := ⟨fits, gam_ok (AllM.all (l := []) trivial)⟩

noncomputable abbrev clock_ValidSpanM : Mdl := (mdlOf (.cons (.d false Span.ty) .nil) [] [] 1 clock_ValidSpanR_ (fun (b : Bool) => ((b, ()), (()))) (fun (a : ((Span × Unit) × (Unit))) => clock_ValidSpan a.1.1))

theorem clock_ValidSpan_ok : MdlOK Try.prog 65 clock_ValidSpanM :=
  fn_ok (c := (bodyOf Try.f65)) Try.func65 (by rfl) (by kernel_rfl) (X := clock_ValidSpanX) (by kernel_rfl) (rs := [.tmp 2]) (by kernel_rfl) (sh := clock_ValidSpanR_) (un := (fun (x : ((Bool × Unit) × (Unit))) => x.1.1)) (mk := (fun (b : Bool) => ((b, ()), (())))) (fun _ => rfl) rfl (clock_ValidSpanG) mixed (ann := .z) (AllS.all (l := []) (by kernel_rfl) trivial) (Nat.le_of_ble_eq_true (by kernel_rfl)) (by kernel_rfl) (fun a => by kernel_rfl)

/-! casebook/roles.Valid$1 -/

def roles_Valid_1R_ : Shp := ⟨[(0, .d true .bool)], []⟩

noncomputable abbrev roles_Valid_1X : Ctx (Bool) := ⟨35, tt, false, [], gam [(46, roles_findM), (64, name_IsNameM), (65, clock_ValidSpanM)], lam [], resU 35 tt [] [.tmp 3] roles_Valid_1R_ (fun (x : ((Bool × Unit) × (Unit))) => x.1.1)⟩

theorem roles_Valid_1G : CtxOK Try.prog roles_Valid_1X := ⟨fits, gam_ok (AllM.all (l := [(46, roles_findM), (64, name_IsNameM), (65, clock_ValidSpanM)]) ⟨roles_find_ok, name_IsName_ok, clock_ValidSpan_ok, trivial⟩)⟩

noncomputable abbrev roles_Valid_1M : Mdl := (mdlOf (.cons (.d false Delegation.ty) (.cons (.rp false Org.ty) .nil)) [] [] 1 roles_Valid_1R_ (fun (b : Bool) => ((b, ()), (()))) (fun (a : ((Delegation × Org × Unit) × (Unit))) => roles_Valid_1 a.1.1 a.1.2.1))

theorem roles_Valid_1_ok : MdlOK Try.prog 63 roles_Valid_1M :=
  fn_ok (c := (bodyOf Try.f63)) Try.func63 (by rfl) (by kernel_rfl) (X := roles_Valid_1X) (by kernel_rfl) (rs := [.tmp 3]) (by kernel_rfl) (sh := roles_Valid_1R_) (un := (fun (x : ((Bool × Unit) × (Unit))) => x.1.1)) (mk := (fun (b : Bool) => ((b, ()), (())))) (fun _ => rfl) rfl (roles_Valid_1G) mixed (ann := .z) (AllS.all (l := []) (by kernel_rfl) trivial) (Nat.le_of_ble_eq_true (by kernel_rfl)) (by kernel_rfl) (fun a => by kernel_rfl)

/-! slices.IndexFunc[[]casebook/api.Delegation,casebook/api.Delegation] -/

def slices_IndexFunc_api_Delegation_api_Delegation_63R_ : Shp := ⟨[(0, .d true (.int .i64))], []⟩

noncomputable abbrev slices_IndexFunc_api_Delegation_api_Delegation_63X : Ctx (Int) := ⟨19, tt, false, [], gam [(63, roles_Valid_1M)], lam [loopSumm (Int) 19 [] slices_IndexFunc_api_Delegation_api_Delegation_63L0I (C := ((List Delegation) × Org × Int)) (S := Int) (fun (x : (((List Delegation) × (Org × Unit) × Int × Int × Unit) × (Unit))) => ((x.1.1, x.1.2.1.1, x.1.2.2.1), x.1.2.2.2.1)) slices_IndexFunc_api_Delegation_api_Delegation_63L0E (CE := Unit) (E := Unit) (fun (c : Unit) (e : Unit) => ((()), (()))) (fun (c : ((List Delegation) × Org × Int)) => ()) (fun {R} c a nx dn rt => slices_IndexFunc_api_Delegation_api_Delegation_63L0K c.1 c.2.1 c.2.2 a nx dn rt)], resU 19 tt [] [.tmp 4] slices_IndexFunc_api_Delegation_api_Delegation_63R_ (fun (x : ((Int × Unit) × (Unit))) => x.1.1)⟩

theorem slices_IndexFunc_api_Delegation_api_Delegation_63G : CtxOK Try.prog slices_IndexFunc_api_Delegation_api_Delegation_63X := ⟨fits, gam_ok (AllM.all (l := [(63, roles_Valid_1M)]) ⟨roles_Valid_1_ok, trivial⟩)⟩

theorem slices_IndexFunc_api_Delegation_api_Delegation_63S0 : SummOK Try.prog slices_IndexFunc_api_Delegation_api_Delegation_63X 0 (.block 0 (.loop (subC (bodyOf Try.f78) [true, false, true, false, false]))) :=
  loop_ok (shI := slices_IndexFunc_api_Delegation_api_Delegation_63L0I) (shE := slices_IndexFunc_api_Delegation_api_Delegation_63L0E) (C := ((List Delegation) × Org × Int)) (S := Int) (CE := Unit) (E := Unit) (slices_IndexFunc_api_Delegation_api_Delegation_63G) mixed (ann := .z) (AllS.all (l := []) (by kernel_rfl) trivial) (mk := (fun (c : ((List Delegation) × Org × Int)) (a : Int) => ((c.1, (c.2.1, ()), c.2.2, a, ()), (())))) (unE := (fun (y : ((Unit) × (Unit))) => ((), ()))) rfl (fun _ => rfl) (fun _ => rfl) (fun R K D T c a => by kernel_rfl)

noncomputable abbrev slices_IndexFunc_api_Delegation_api_Delegation_63M : Mdl := (mdlOf (.cons (.d false (.slice Delegation.ty)) (.cons (.fn 63 (.cons (.rp false Org.ty) .nil)) .nil)) [] [] 1 slices_IndexFunc_api_Delegation_api_Delegation_63R_ (fun (b : Int) => ((b, ()), (()))) (fun (a : (((List Delegation) × (Org × Unit) × Unit) × (Unit))) => slices_IndexFunc_api_Delegation_api_Delegation_63 a.1.1 a.1.2.1.1))

theorem slices_IndexFunc_api_Delegation_api_Delegation_63_ok : MdlOK Try.prog 78 slices_IndexFunc_api_Delegation_api_Delegation_63M :=
  fn_ok (c := (bodyOf Try.f78)) Try.func78 (by rfl) (by kernel_rfl) (X := slices_IndexFunc_api_Delegation_api_Delegation_63X) (by kernel_rfl) (rs := [.tmp 4]) (by kernel_rfl) (sh := slices_IndexFunc_api_Delegation_api_Delegation_63R_) (un := (fun (x : ((Int × Unit) × (Unit))) => x.1.1)) (mk := (fun (b : Int) => ((b, ()), (())))) (fun _ => rfl) rfl (slices_IndexFunc_api_Delegation_api_Delegation_63G) mixed (ann := (.two .z (.two (.two .z (.s 0)) .z))) (AllS.all (l := [(0, .block 0 (.loop (subC (bodyOf Try.f78) [true, false, true, false, false])))]) (by kernel_rfl) ⟨slices_IndexFunc_api_Delegation_api_Delegation_63S0, trivial⟩) (Nat.le_of_ble_eq_true (by kernel_rfl)) (by kernel_rfl) (fun a => by kernel_rfl)

/-! slices.ContainsFunc[[]casebook/api.Delegation,casebook/api.Delegation] -/

def slices_ContainsFunc_api_Delegation_api_Delegation_63R_ : Shp := ⟨[(0, .d true .bool)], []⟩

noncomputable abbrev slices_ContainsFunc_api_Delegation_api_Delegation_63X : Ctx (Bool) := ⟨9, tt, false, [], gam [(78, slices_IndexFunc_api_Delegation_api_Delegation_63M)], lam [], resU 9 tt [] [.tmp 4] slices_ContainsFunc_api_Delegation_api_Delegation_63R_ (fun (x : ((Bool × Unit) × (Unit))) => x.1.1)⟩

theorem slices_ContainsFunc_api_Delegation_api_Delegation_63G : CtxOK Try.prog slices_ContainsFunc_api_Delegation_api_Delegation_63X := ⟨fits, gam_ok (AllM.all (l := [(78, slices_IndexFunc_api_Delegation_api_Delegation_63M)]) ⟨slices_IndexFunc_api_Delegation_api_Delegation_63_ok, trivial⟩)⟩

noncomputable abbrev slices_ContainsFunc_api_Delegation_api_Delegation_63M : Mdl := (mdlOf (.cons (.d false (.slice Delegation.ty)) (.cons (.fn 63 (.cons (.rp false Org.ty) .nil)) .nil)) [] [] 1 slices_ContainsFunc_api_Delegation_api_Delegation_63R_ (fun (b : Bool) => ((b, ()), (()))) (fun (a : (((List Delegation) × (Org × Unit) × Unit) × (Unit))) => slices_ContainsFunc_api_Delegation_api_Delegation_63 a.1.1 a.1.2.1.1))

theorem slices_ContainsFunc_api_Delegation_api_Delegation_63_ok : MdlOK Try.prog 37 slices_ContainsFunc_api_Delegation_api_Delegation_63M :=
  fn_ok (c := (bodyOf Try.f37)) Try.func37 (by rfl) (by kernel_rfl) (X := slices_ContainsFunc_api_Delegation_api_Delegation_63X) (by kernel_rfl) (rs := [.tmp 4]) (by kernel_rfl) (sh := slices_ContainsFunc_api_Delegation_api_Delegation_63R_) (un := (fun (x : ((Bool × Unit) × (Unit))) => x.1.1)) (mk := (fun (b : Bool) => ((b, ()), (())))) (fun _ => rfl) rfl (slices_ContainsFunc_api_Delegation_api_Delegation_63G) mixed (ann := .z) (AllS.all (l := []) (by kernel_rfl) trivial) (Nat.le_of_ble_eq_true (by kernel_rfl)) (by kernel_rfl) (fun a => by kernel_rfl)

/-! casebook/roles.Valid$2 -/

def roles_Valid_2R_ : Shp := ⟨[(0, .d true .bool)], []⟩

noncomputable abbrev roles_Valid_2X : Ctx (Bool) := ⟨23, tt, false, [], gam [(64, name_IsNameM)], lam [], resU 23 tt [] [.tmp 2] roles_Valid_2R_ (fun (x : ((Bool × Unit) × (Unit))) => x.1.1)⟩

theorem roles_Valid_2G : CtxOK Try.prog roles_Valid_2X := ⟨fits, gam_ok (AllM.all (l := [(64, name_IsNameM)]) ⟨name_IsName_ok, trivial⟩)⟩

noncomputable abbrev roles_Valid_2M : Mdl := (mdlOf (.cons (.d false Duty.ty) .nil) [] [] 1 roles_Valid_2R_ (fun (b : Bool) => ((b, ()), (()))) (fun (a : ((Duty × Unit) × (Unit))) => roles_Valid_2 a.1.1))

theorem roles_Valid_2_ok : MdlOK Try.prog 66 roles_Valid_2M :=
  fn_ok (c := (bodyOf Try.f66)) Try.func66 (by rfl) (by kernel_rfl) (X := roles_Valid_2X) (by kernel_rfl) (rs := [.tmp 2]) (by kernel_rfl) (sh := roles_Valid_2R_) (un := (fun (x : ((Bool × Unit) × (Unit))) => x.1.1)) (mk := (fun (b : Bool) => ((b, ()), (())))) (fun _ => rfl) rfl (roles_Valid_2G) mixed (ann := .z) (AllS.all (l := []) (by kernel_rfl) trivial) (Nat.le_of_ble_eq_true (by kernel_rfl)) (by kernel_rfl) (fun a => by kernel_rfl)

/-! slices.IndexFunc[[]casebook/api.Duty,casebook/api.Duty] -/

def slices_IndexFunc_api_Duty_api_Duty_66R_ : Shp := ⟨[(0, .d true (.int .i64))], []⟩

noncomputable abbrev slices_IndexFunc_api_Duty_api_Duty_66X : Ctx (Int) := ⟨19, tt, false, [], gam [(66, roles_Valid_2M)], lam [loopSumm (Int) 19 [] slices_IndexFunc_api_Duty_api_Duty_66L0I (C := ((List Duty) × Int)) (S := Int) (fun (x : (((List Duty) × (Unit) × Int × Int × Unit) × (Unit))) => ((x.1.1, x.1.2.2.1), x.1.2.2.2.1)) slices_IndexFunc_api_Duty_api_Duty_66L0E (CE := Unit) (E := Unit) (fun (c : Unit) (e : Unit) => ((()), (()))) (fun (c : ((List Duty) × Int)) => ()) (fun {R} c a nx dn rt => slices_IndexFunc_api_Duty_api_Duty_66L0K c.1 c.2 a nx dn rt)], resU 19 tt [] [.tmp 4] slices_IndexFunc_api_Duty_api_Duty_66R_ (fun (x : ((Int × Unit) × (Unit))) => x.1.1)⟩

theorem slices_IndexFunc_api_Duty_api_Duty_66G : CtxOK Try.prog slices_IndexFunc_api_Duty_api_Duty_66X := ⟨fits, gam_ok (AllM.all (l := [(66, roles_Valid_2M)]) ⟨roles_Valid_2_ok, trivial⟩)⟩

theorem slices_IndexFunc_api_Duty_api_Duty_66S0 : SummOK Try.prog slices_IndexFunc_api_Duty_api_Duty_66X 0 (.block 0 (.loop (subC (bodyOf Try.f79) [true, false, true, false, false]))) :=
  loop_ok (shI := slices_IndexFunc_api_Duty_api_Duty_66L0I) (shE := slices_IndexFunc_api_Duty_api_Duty_66L0E) (C := ((List Duty) × Int)) (S := Int) (CE := Unit) (E := Unit) (slices_IndexFunc_api_Duty_api_Duty_66G) mixed (ann := .z) (AllS.all (l := []) (by kernel_rfl) trivial) (mk := (fun (c : ((List Duty) × Int)) (a : Int) => ((c.1, (()), c.2, a, ()), (())))) (unE := (fun (y : ((Unit) × (Unit))) => ((), ()))) rfl (fun _ => rfl) (fun _ => rfl) (fun R K D T c a => by kernel_rfl)

noncomputable abbrev slices_IndexFunc_api_Duty_api_Duty_66M : Mdl := (mdlOf (.cons (.d false (.slice Duty.ty)) (.cons (.fn 66 .nil) .nil)) [] [] 1 slices_IndexFunc_api_Duty_api_Duty_66R_ (fun (b : Int) => ((b, ()), (()))) (fun (a : (((List Duty) × (Unit) × Unit) × (Unit))) => slices_IndexFunc_api_Duty_api_Duty_66 a.1.1))

theorem slices_IndexFunc_api_Duty_api_Duty_66_ok : MdlOK Try.prog 79 slices_IndexFunc_api_Duty_api_Duty_66M :=
  fn_ok (c := (bodyOf Try.f79)) Try.func79 (by rfl) (by kernel_rfl) (X := slices_IndexFunc_api_Duty_api_Duty_66X) (by kernel_rfl) (rs := [.tmp 4]) (by kernel_rfl) (sh := slices_IndexFunc_api_Duty_api_Duty_66R_) (un := (fun (x : ((Int × Unit) × (Unit))) => x.1.1)) (mk := (fun (b : Int) => ((b, ()), (())))) (fun _ => rfl) rfl (slices_IndexFunc_api_Duty_api_Duty_66G) mixed (ann := (.two .z (.two (.two .z (.s 0)) .z))) (AllS.all (l := [(0, .block 0 (.loop (subC (bodyOf Try.f79) [true, false, true, false, false])))]) (by kernel_rfl) ⟨slices_IndexFunc_api_Duty_api_Duty_66S0, trivial⟩) (Nat.le_of_ble_eq_true (by kernel_rfl)) (by kernel_rfl) (fun a => by kernel_rfl)

/-! slices.ContainsFunc[[]casebook/api.Duty,casebook/api.Duty] -/

def slices_ContainsFunc_api_Duty_api_Duty_66R_ : Shp := ⟨[(0, .d true .bool)], []⟩

noncomputable abbrev slices_ContainsFunc_api_Duty_api_Duty_66X : Ctx (Bool) := ⟨9, tt, false, [], gam [(79, slices_IndexFunc_api_Duty_api_Duty_66M)], lam [], resU 9 tt [] [.tmp 4] slices_ContainsFunc_api_Duty_api_Duty_66R_ (fun (x : ((Bool × Unit) × (Unit))) => x.1.1)⟩

theorem slices_ContainsFunc_api_Duty_api_Duty_66G : CtxOK Try.prog slices_ContainsFunc_api_Duty_api_Duty_66X := ⟨fits, gam_ok (AllM.all (l := [(79, slices_IndexFunc_api_Duty_api_Duty_66M)]) ⟨slices_IndexFunc_api_Duty_api_Duty_66_ok, trivial⟩)⟩

noncomputable abbrev slices_ContainsFunc_api_Duty_api_Duty_66M : Mdl := (mdlOf (.cons (.d false (.slice Duty.ty)) (.cons (.fn 66 .nil) .nil)) [] [] 1 slices_ContainsFunc_api_Duty_api_Duty_66R_ (fun (b : Bool) => ((b, ()), (()))) (fun (a : (((List Duty) × (Unit) × Unit) × (Unit))) => slices_ContainsFunc_api_Duty_api_Duty_66 a.1.1))

theorem slices_ContainsFunc_api_Duty_api_Duty_66_ok : MdlOK Try.prog 39 slices_ContainsFunc_api_Duty_api_Duty_66M :=
  fn_ok (c := (bodyOf Try.f39)) Try.func39 (by rfl) (by kernel_rfl) (X := slices_ContainsFunc_api_Duty_api_Duty_66X) (by kernel_rfl) (rs := [.tmp 4]) (by kernel_rfl) (sh := slices_ContainsFunc_api_Duty_api_Duty_66R_) (un := (fun (x : ((Bool × Unit) × (Unit))) => x.1.1)) (mk := (fun (b : Bool) => ((b, ()), (())))) (fun _ => rfl) rfl (slices_ContainsFunc_api_Duty_api_Duty_66G) mixed (ann := .z) (AllS.all (l := []) (by kernel_rfl) trivial) (Nat.le_of_ble_eq_true (by kernel_rfl)) (by kernel_rfl) (fun a => by kernel_rfl)

/-! casebook/roles.Valid -/

def roles_ValidR_ : Shp := ⟨[(0, .d true .bool)], []⟩

noncomputable abbrev roles_ValidX : Ctx (Bool) := ⟨32, tt, false, [], gam [(62, roles_peopleM), (37, slices_ContainsFunc_api_Delegation_api_Delegation_63M), (39, slices_ContainsFunc_api_Duty_api_Duty_66M)], lam [], resU 32 tt [] [.tmp 2] roles_ValidR_ (fun (x : ((Bool × Unit) × (Unit))) => x.1.1)⟩

theorem roles_ValidG : CtxOK Try.prog roles_ValidX := ⟨fits, gam_ok (AllM.all (l := [(62, roles_peopleM), (37, slices_ContainsFunc_api_Delegation_api_Delegation_63M), (39, slices_ContainsFunc_api_Duty_api_Duty_66M)]) ⟨roles_people_ok, slices_ContainsFunc_api_Delegation_api_Delegation_63_ok, slices_ContainsFunc_api_Duty_api_Duty_66_ok, trivial⟩)⟩

noncomputable abbrev roles_ValidM : Mdl := (mdlOf (.cons (.d false Org.ty) .nil) [] [] 1 roles_ValidR_ (fun (b : Bool) => ((b, ()), (()))) (fun (a : ((Org × Unit) × (Unit))) => roles_Valid a.1.1))

theorem roles_Valid_ok : MdlOK Try.prog 22 roles_ValidM :=
  fn_ok (c := (bodyOf Try.f22)) Try.func22 (by rfl) (by kernel_rfl) (X := roles_ValidX) (by kernel_rfl) (rs := [.tmp 2]) (by kernel_rfl) (sh := roles_ValidR_) (un := (fun (x : ((Bool × Unit) × (Unit))) => x.1.1)) (mk := (fun (b : Bool) => ((b, ()), (())))) (fun _ => rfl) rfl (roles_ValidG) mixed (ann := .z) (AllS.all (l := []) (by kernel_rfl) trivial) (Nat.le_of_ble_eq_true (by kernel_rfl)) (by kernel_rfl) (fun a => by kernel_rfl)

/-! casebook/roles.names$1 -/

def roles_names_1R_ : Shp := ⟨[(0, .d true .bool)], []⟩

noncomputable abbrev roles_names_1X : Ctx (Bool) := ⟨6, tt, false, [], gam [(64, name_IsNameM)], lam [], resU 6 tt [] [.tmp 2] roles_names_1R_ (fun (x : ((Bool × Unit) × (Unit))) => x.1.1)⟩

theorem roles_names_1G : CtxOK Try.prog roles_names_1X := ⟨fits, gam_ok (AllM.all (l := [(64, name_IsNameM)]) ⟨name_IsName_ok, trivial⟩)⟩

noncomputable abbrev roles_names_1M : Mdl := (mdlOf (.cons (.d false .str) .nil) [] [] 1 roles_names_1R_ (fun (b : Bool) => ((b, ()), (()))) (fun (a : ((ByteArray × Unit) × (Unit))) => roles_names_1 a.1.1))

theorem roles_names_1_ok : MdlOK Try.prog 85 roles_names_1M :=
  fn_ok (c := (bodyOf Try.f85)) Try.func85 (by rfl) (by kernel_rfl) (X := roles_names_1X) (by kernel_rfl) (rs := [.tmp 2]) (by kernel_rfl) (sh := roles_names_1R_) (un := (fun (x : ((Bool × Unit) × (Unit))) => x.1.1)) (mk := (fun (b : Bool) => ((b, ()), (())))) (fun _ => rfl) rfl (roles_names_1G) mixed (ann := .z) (AllS.all (l := []) (by kernel_rfl) trivial) (Nat.le_of_ble_eq_true (by kernel_rfl)) (by kernel_rfl) (fun a => by kernel_rfl)

/-! slices.IndexFunc[[]string,string] -/

def slices_IndexFunc_string_string_85R_ : Shp := ⟨[(0, .d true (.int .i64))], []⟩

noncomputable abbrev slices_IndexFunc_string_string_85X : Ctx (Int) := ⟨19, tt, false, [], gam [(85, roles_names_1M)], lam [loopSumm (Int) 19 [] slices_IndexFunc_string_string_85L0I (C := ((List ByteArray) × Int)) (S := Int) (fun (x : (((List ByteArray) × (Unit) × Int × Int × Unit) × (Unit))) => ((x.1.1, x.1.2.2.1), x.1.2.2.2.1)) slices_IndexFunc_string_string_85L0E (CE := Unit) (E := Unit) (fun (c : Unit) (e : Unit) => ((()), (()))) (fun (c : ((List ByteArray) × Int)) => ()) (fun {R} c a nx dn rt => slices_IndexFunc_string_string_85L0K c.1 c.2 a nx dn rt)], resU 19 tt [] [.tmp 4] slices_IndexFunc_string_string_85R_ (fun (x : ((Int × Unit) × (Unit))) => x.1.1)⟩

theorem slices_IndexFunc_string_string_85G : CtxOK Try.prog slices_IndexFunc_string_string_85X := ⟨fits, gam_ok (AllM.all (l := [(85, roles_names_1M)]) ⟨roles_names_1_ok, trivial⟩)⟩

theorem slices_IndexFunc_string_string_85S0 : SummOK Try.prog slices_IndexFunc_string_string_85X 0 (.block 0 (.loop (subC (bodyOf Try.f80) [true, false, true, false, false]))) :=
  loop_ok (shI := slices_IndexFunc_string_string_85L0I) (shE := slices_IndexFunc_string_string_85L0E) (C := ((List ByteArray) × Int)) (S := Int) (CE := Unit) (E := Unit) (slices_IndexFunc_string_string_85G) mixed (ann := .z) (AllS.all (l := []) (by kernel_rfl) trivial) (mk := (fun (c : ((List ByteArray) × Int)) (a : Int) => ((c.1, (()), c.2, a, ()), (())))) (unE := (fun (y : ((Unit) × (Unit))) => ((), ()))) rfl (fun _ => rfl) (fun _ => rfl) (fun R K D T c a => by kernel_rfl)

noncomputable abbrev slices_IndexFunc_string_string_85M : Mdl := (mdlOf (.cons (.d false (.slice .str)) (.cons (.fn 85 .nil) .nil)) [] [] 1 slices_IndexFunc_string_string_85R_ (fun (b : Int) => ((b, ()), (()))) (fun (a : (((List ByteArray) × (Unit) × Unit) × (Unit))) => slices_IndexFunc_string_string_85 a.1.1))

theorem slices_IndexFunc_string_string_85_ok : MdlOK Try.prog 80 slices_IndexFunc_string_string_85M :=
  fn_ok (c := (bodyOf Try.f80)) Try.func80 (by rfl) (by kernel_rfl) (X := slices_IndexFunc_string_string_85X) (by kernel_rfl) (rs := [.tmp 4]) (by kernel_rfl) (sh := slices_IndexFunc_string_string_85R_) (un := (fun (x : ((Int × Unit) × (Unit))) => x.1.1)) (mk := (fun (b : Int) => ((b, ()), (())))) (fun _ => rfl) rfl (slices_IndexFunc_string_string_85G) mixed (ann := (.two .z (.two (.two .z (.s 0)) .z))) (AllS.all (l := [(0, .block 0 (.loop (subC (bodyOf Try.f80) [true, false, true, false, false])))]) (by kernel_rfl) ⟨slices_IndexFunc_string_string_85S0, trivial⟩) (Nat.le_of_ble_eq_true (by kernel_rfl)) (by kernel_rfl) (fun a => by kernel_rfl)

/-! slices.ContainsFunc[[]string,string] -/

def slices_ContainsFunc_string_string_85R_ : Shp := ⟨[(0, .d true .bool)], []⟩

noncomputable abbrev slices_ContainsFunc_string_string_85X : Ctx (Bool) := ⟨9, tt, false, [], gam [(80, slices_IndexFunc_string_string_85M)], lam [], resU 9 tt [] [.tmp 4] slices_ContainsFunc_string_string_85R_ (fun (x : ((Bool × Unit) × (Unit))) => x.1.1)⟩

theorem slices_ContainsFunc_string_string_85G : CtxOK Try.prog slices_ContainsFunc_string_string_85X := ⟨fits, gam_ok (AllM.all (l := [(80, slices_IndexFunc_string_string_85M)]) ⟨slices_IndexFunc_string_string_85_ok, trivial⟩)⟩

noncomputable abbrev slices_ContainsFunc_string_string_85M : Mdl := (mdlOf (.cons (.d false (.slice .str)) (.cons (.fn 85 .nil) .nil)) [] [] 1 slices_ContainsFunc_string_string_85R_ (fun (b : Bool) => ((b, ()), (()))) (fun (a : (((List ByteArray) × (Unit) × Unit) × (Unit))) => slices_ContainsFunc_string_string_85 a.1.1))

theorem slices_ContainsFunc_string_string_85_ok : MdlOK Try.prog 41 slices_ContainsFunc_string_string_85M :=
  fn_ok (c := (bodyOf Try.f41)) Try.func41 (by rfl) (by kernel_rfl) (X := slices_ContainsFunc_string_string_85X) (by kernel_rfl) (rs := [.tmp 4]) (by kernel_rfl) (sh := slices_ContainsFunc_string_string_85R_) (un := (fun (x : ((Bool × Unit) × (Unit))) => x.1.1)) (mk := (fun (b : Bool) => ((b, ()), (())))) (fun _ => rfl) rfl (slices_ContainsFunc_string_string_85G) mixed (ann := .z) (AllS.all (l := []) (by kernel_rfl) trivial) (Nat.le_of_ble_eq_true (by kernel_rfl)) (by kernel_rfl) (fun a => by kernel_rfl)

/-! casebook/roles.names -/

def roles_namesR_ : Shp := ⟨[(0, .d true .bool)], []⟩

noncomputable abbrev roles_namesX : Ctx (Bool) := ⟨6, tt, false, [], gam [(41, slices_ContainsFunc_string_string_85M)], lam [], resU 6 tt [] [.tmp 2] roles_namesR_ (fun (x : ((Bool × Unit) × (Unit))) => x.1.1)⟩

theorem roles_namesG : CtxOK Try.prog roles_namesX := ⟨fits, gam_ok (AllM.all (l := [(41, slices_ContainsFunc_string_string_85M)]) ⟨slices_ContainsFunc_string_string_85_ok, trivial⟩)⟩

noncomputable abbrev roles_namesM : Mdl := (mdlOf (.cons (.d false (.slice .str)) .nil) [] [] 1 roles_namesR_ (fun (b : Bool) => ((b, ()), (()))) (fun (a : (((List ByteArray) × Unit) × (Unit))) => roles_names a.1.1))

theorem roles_names_ok : MdlOK Try.prog 53 roles_namesM :=
  fn_ok (c := (bodyOf Try.f53)) Try.func53 (by rfl) (by kernel_rfl) (X := roles_namesX) (by kernel_rfl) (rs := [.tmp 2]) (by kernel_rfl) (sh := roles_namesR_) (un := (fun (x : ((Bool × Unit) × (Unit))) => x.1.1)) (mk := (fun (b : Bool) => ((b, ()), (())))) (fun _ => rfl) rfl (roles_namesG) mixed (ann := .z) (AllS.all (l := []) (by kernel_rfl) trivial) (Nat.le_of_ble_eq_true (by kernel_rfl)) (by kernel_rfl) (fun a => by kernel_rfl)

/-! casebook/roles.instant -/

def roles_instantR_ : Shp := ⟨[(0, .d true .bool)], []⟩

noncomputable abbrev roles_instantX : Ctx (Bool) := ⟨9, tt, false, [], gam [], lam [], resU 9 tt [] [.tmp 2] roles_instantR_ (fun (x : ((Bool × Unit) × (Unit))) => x.1.1)⟩

theorem roles_instantG : CtxOK Try.prog roles_instantX := ⟨fits, gam_ok (AllM.all (l := []) trivial)⟩

noncomputable abbrev roles_instantM : Mdl := (mdlOf (.cons (.d false (.int .i64)) .nil) [] [] 1 roles_instantR_ (fun (b : Bool) => ((b, ()), (()))) (fun (a : ((Int × Unit) × (Unit))) => roles_instant a.1.1))

theorem roles_instant_ok : MdlOK Try.prog 54 roles_instantM :=
  fn_ok (c := (bodyOf Try.f54)) Try.func54 (by rfl) (by kernel_rfl) (X := roles_instantX) (by kernel_rfl) (rs := [.tmp 2]) (by kernel_rfl) (sh := roles_instantR_) (un := (fun (x : ((Bool × Unit) × (Unit))) => x.1.1)) (mk := (fun (b : Bool) => ((b, ()), (())))) (fun _ => rfl) rfl (roles_instantG) mixed (ann := .z) (AllS.all (l := []) (by kernel_rfl) trivial) (Nat.le_of_ble_eq_true (by kernel_rfl)) (by kernel_rfl) (fun a => by kernel_rfl)

/-! slices.Index[[]string,string] -/

def slices_Index_string_stringR_ : Shp := ⟨[(0, .d true (.int .i64))], []⟩

noncomputable abbrev slices_Index_string_stringX : Ctx (Int) := ⟨19, tt, false, [], gam [], lam [loopSumm (Int) 19 [] slices_Index_string_stringL0I (C := ((List ByteArray) × ByteArray × Int)) (S := Int) (fun (x : (((List ByteArray) × ByteArray × Int × Int × Unit) × (Unit))) => ((x.1.1, x.1.2.1, x.1.2.2.1), x.1.2.2.2.1)) slices_Index_string_stringL0E (CE := Unit) (E := Unit) (fun (c : Unit) (e : Unit) => ((()), (()))) (fun (c : ((List ByteArray) × ByteArray × Int)) => ()) (fun {R} c a nx dn rt => slices_Index_string_stringL0K c.1 c.2.1 c.2.2 a nx dn rt)], resU 19 tt [] [.tmp 4] slices_Index_string_stringR_ (fun (x : ((Int × Unit) × (Unit))) => x.1.1)⟩

theorem slices_Index_string_stringG : CtxOK Try.prog slices_Index_string_stringX := ⟨fits, gam_ok (AllM.all (l := []) trivial)⟩

theorem slices_Index_string_stringS0 : SummOK Try.prog slices_Index_string_stringX 0 (.block 0 (.loop (subC (bodyOf Try.f83) [true, false, true, false, false]))) :=
  loop_ok (shI := slices_Index_string_stringL0I) (shE := slices_Index_string_stringL0E) (C := ((List ByteArray) × ByteArray × Int)) (S := Int) (CE := Unit) (E := Unit) (slices_Index_string_stringG) mixed (ann := .z) (AllS.all (l := []) (by kernel_rfl) trivial) (mk := (fun (c : ((List ByteArray) × ByteArray × Int)) (a : Int) => ((c.1, c.2.1, c.2.2, a, ()), (())))) (unE := (fun (y : ((Unit) × (Unit))) => ((), ()))) rfl (fun _ => rfl) (fun _ => rfl) (fun R K D T c a => by kernel_rfl)

noncomputable abbrev slices_Index_string_stringM : Mdl := (mdlOf (.cons (.d false (.slice .str)) (.cons (.d false .str) .nil)) [] [] 1 slices_Index_string_stringR_ (fun (b : Int) => ((b, ()), (()))) (fun (a : (((List ByteArray) × ByteArray × Unit) × (Unit))) => slices_Index_string_string a.1.1 a.1.2.1))

theorem slices_Index_string_string_ok : MdlOK Try.prog 83 slices_Index_string_stringM :=
  fn_ok (c := (bodyOf Try.f83)) Try.func83 (by rfl) (by kernel_rfl) (X := slices_Index_string_stringX) (by kernel_rfl) (rs := [.tmp 4]) (by kernel_rfl) (sh := slices_Index_string_stringR_) (un := (fun (x : ((Int × Unit) × (Unit))) => x.1.1)) (mk := (fun (b : Int) => ((b, ()), (())))) (fun _ => rfl) rfl (slices_Index_string_stringG) mixed (ann := (.two .z (.two (.two .z (.s 0)) .z))) (AllS.all (l := [(0, .block 0 (.loop (subC (bodyOf Try.f83) [true, false, true, false, false])))]) (by kernel_rfl) ⟨slices_Index_string_stringS0, trivial⟩) (Nat.le_of_ble_eq_true (by kernel_rfl)) (by kernel_rfl) (fun a => by kernel_rfl)

/-! slices.Contains[[]string,string] -/

def slices_Contains_string_stringR_ : Shp := ⟨[(0, .d true .bool)], []⟩

noncomputable abbrev slices_Contains_string_stringX : Ctx (Bool) := ⟨9, tt, false, [], gam [(83, slices_Index_string_stringM)], lam [], resU 9 tt [] [.tmp 4] slices_Contains_string_stringR_ (fun (x : ((Bool × Unit) × (Unit))) => x.1.1)⟩

theorem slices_Contains_string_stringG : CtxOK Try.prog slices_Contains_string_stringX := ⟨fits, gam_ok (AllM.all (l := [(83, slices_Index_string_stringM)]) ⟨slices_Index_string_string_ok, trivial⟩)⟩

noncomputable abbrev slices_Contains_string_stringM : Mdl := (mdlOf (.cons (.d false (.slice .str)) (.cons (.d false .str) .nil)) [] [] 1 slices_Contains_string_stringR_ (fun (b : Bool) => ((b, ()), (()))) (fun (a : (((List ByteArray) × ByteArray × Unit) × (Unit))) => slices_Contains_string_string a.1.1 a.1.2.1))

theorem slices_Contains_string_string_ok : MdlOK Try.prog 47 slices_Contains_string_stringM :=
  fn_ok (c := (bodyOf Try.f47)) Try.func47 (by rfl) (by kernel_rfl) (X := slices_Contains_string_stringX) (by kernel_rfl) (rs := [.tmp 4]) (by kernel_rfl) (sh := slices_Contains_string_stringR_) (un := (fun (x : ((Bool × Unit) × (Unit))) => x.1.1)) (mk := (fun (b : Bool) => ((b, ()), (())))) (fun _ => rfl) rfl (slices_Contains_string_stringG) mixed (ann := .z) (AllS.all (l := []) (by kernel_rfl) trivial) (Nat.le_of_ble_eq_true (by kernel_rfl)) (by kernel_rfl) (fun a => by kernel_rfl)

/-! casebook/roles.has$1 -/

def roles_has_1R_ : Shp := ⟨[(0, .d true .bool)], []⟩

noncomputable abbrev roles_has_1X : Ctx (Bool) := ⟨15, tt, false, [], gam [(46, roles_findM), (47, slices_Contains_string_stringM)], lam [], resU 15 tt [] [.tmp 4] roles_has_1R_ (fun (x : ((Bool × Unit) × (Unit))) => x.1.1)⟩

theorem roles_has_1G : CtxOK Try.prog roles_has_1X := ⟨fits, gam_ok (AllM.all (l := [(46, roles_findM), (47, slices_Contains_string_stringM)]) ⟨roles_find_ok, slices_Contains_string_string_ok, trivial⟩)⟩

noncomputable abbrev roles_has_1M : Mdl := (mdlOf (.cons (.d false .str) (.cons (.rp false Org.ty) (.cons (.rp false .str) .nil))) [] [] 1 roles_has_1R_ (fun (b : Bool) => ((b, ()), (()))) (fun (a : ((ByteArray × Org × ByteArray × Unit) × (Unit))) => roles_has_1 a.1.1 a.1.2.1 a.1.2.2.1))

theorem roles_has_1_ok : MdlOK Try.prog 86 roles_has_1M :=
  fn_ok (c := (bodyOf Try.f86)) Try.func86 (by rfl) (by kernel_rfl) (X := roles_has_1X) (by kernel_rfl) (rs := [.tmp 4]) (by kernel_rfl) (sh := roles_has_1R_) (un := (fun (x : ((Bool × Unit) × (Unit))) => x.1.1)) (mk := (fun (b : Bool) => ((b, ()), (())))) (fun _ => rfl) rfl (roles_has_1G) mixed (ann := (.two .z (.two (.d [0, 1, 0, 0, 12, 31, 63, 127, 0, 511, 1023] [] []) .z))) (AllS.all (l := []) (by kernel_rfl) trivial) (Nat.le_of_ble_eq_true (by kernel_rfl)) (by kernel_rfl) (fun a => by kernel_rfl)

/-! casebook/roles.has$2 -/

def roles_has_2_86R_ : Shp := ⟨[(0, .d true .bool)], [.cs 9 1 1 (.cons (.d true .str) .nil), .cs 53 1 1 (.cons (.fn 86 (.cons (.ptr 2) (.cons (.ptr 0) .nil))) .nil), .cs 26 3 1 (.cons (.d true (.slice Person.ty)) (.cons (.d true (.slice Delegation.ty)) (.cons (.d true (.slice Duty.ty)) .nil)))]⟩

noncomputable abbrev roles_has_2_86X : Ctx ((Bool × ByteArray × (List Person) × (List Delegation) × (List Duty))) := ⟨37, tt, false, [true, true, true], gam [(86, roles_has_1M)], lam [], resU 37 tt [true, true, true] [.tmp 6] roles_has_2_86R_ (fun (x : ((Bool × Unit) × ((ByteArray × Unit) × ((Unit × Unit × Unit) × Unit) × ((List Person) × (List Delegation) × (List Duty) × Unit) × Unit))) => (x.1.1, x.2.1.1, x.2.2.2.1.1, x.2.2.2.1.2.1, x.2.2.2.1.2.2.1))⟩

theorem roles_has_2_86G : CtxOK Try.prog roles_has_2_86X := ⟨fits, gam_ok (AllM.all (l := [(86, roles_has_1M)]) ⟨roles_has_1_ok, trivial⟩)⟩

noncomputable abbrev roles_has_2_86M : Mdl := (mdlOf (.cons (.d false Delegation.ty) (.cons (.rp false .str) (.cons (.ptr 0) (.cons (.rp false (.int .i64)) (.cons (.ptr 1) .nil))))) [.cs 9 1 1 (.cons (.d false .str) .nil), .cs 53 1 1 (.cons (.fn 86 (.cons (.ptr 2) (.cons (.ptr 0) .nil))) .nil), .cs 26 3 1 (.cons (.d true (.slice Person.ty)) (.cons (.d true (.slice Delegation.ty)) (.cons (.d true (.slice Duty.ty)) .nil)))] [true, true, true] 1 roles_has_2_86R_ (fun (b : (Bool × ByteArray × (List Person) × (List Delegation) × (List Duty))) => ((b.1, ()), ((b.2.1, ()), (((), (), ()), ()), (b.2.2.1, b.2.2.2.1, b.2.2.2.2, ()), ()))) (fun (a : ((Delegation × ByteArray × Unit × Int × Unit × Unit) × ((ByteArray × Unit) × ((Unit × Unit × Unit) × Unit) × ((List Person) × (List Delegation) × (List Duty) × Unit) × Unit))) => roles_has_2_86 a.1.1 a.1.2.1 a.1.2.2.2.1 a.2.1.1 a.2.2.2.1.1 a.2.2.2.1.2.1 a.2.2.2.1.2.2.1))

theorem roles_has_2_86_ok : MdlOK Try.prog 87 roles_has_2_86M :=
  fn_ok (c := (bodyOf Try.f87)) Try.func87 (by rfl) (by kernel_rfl) (X := roles_has_2_86X) (by kernel_rfl) (rs := [.tmp 6]) (by kernel_rfl) (sh := roles_has_2_86R_) (un := (fun (x : ((Bool × Unit) × ((ByteArray × Unit) × ((Unit × Unit × Unit) × Unit) × ((List Person) × (List Delegation) × (List Duty) × Unit) × Unit))) => (x.1.1, x.2.1.1, x.2.2.2.1.1, x.2.2.2.1.2.1, x.2.2.2.1.2.2.1))) (mk := (fun (b : (Bool × ByteArray × (List Person) × (List Delegation) × (List Duty))) => ((b.1, ()), ((b.2.1, ()), (((), (), ()), ()), (b.2.2.1, b.2.2.2.1, b.2.2.2.2, ()), ())))) (fun _ => rfl) rfl (roles_has_2_86G) mixed (ann := .z) (AllS.all (l := []) (by kernel_rfl) trivial) (Nat.le_of_ble_eq_true (by kernel_rfl)) (by kernel_rfl) (fun a => by kernel_rfl)

/-! slices.IndexFunc[[]casebook/api.Delegation,casebook/api.Delegation] -/

def slices_IndexFunc_api_Delegation_api_Delegation_87_86R_ : Shp := ⟨[(0, .d true (.int .i64))], [.cs 9 1 1 (.cons (.d true .str) .nil), .cs 53 1 1 (.cons (.fn 86 (.cons (.ptr 2) (.cons (.ptr 0) .nil))) .nil), .cs 26 3 1 (.cons (.d true (.slice Person.ty)) (.cons (.d true (.slice Delegation.ty)) (.cons (.d true (.slice Duty.ty)) .nil)))]⟩

noncomputable abbrev slices_IndexFunc_api_Delegation_api_Delegation_87_86X : Ctx ((Int × ByteArray × (List Person) × (List Delegation) × (List Duty))) := ⟨19, tt, false, [true, true, true], gam [(87, roles_has_2_86M)], lam [loopSumm ((Int × ByteArray × (List Person) × (List Delegation) × (List Duty))) 19 [true, true, true] slices_IndexFunc_api_Delegation_api_Delegation_87_86L0I (C := ((List Delegation) × ByteArray × Int × Int)) (S := (Int × ByteArray × (List Person) × (List Delegation) × (List Duty))) (fun (x : (((List Delegation) × (ByteArray × Unit × Int × Unit × Unit) × Int × Int × Unit) × ((ByteArray × Unit) × ((Unit × Unit × Unit) × Unit) × ((List Person) × (List Delegation) × (List Duty) × Unit) × Unit))) => ((x.1.1, x.1.2.1.1, x.1.2.1.2.2.1, x.1.2.2.1), (x.1.2.2.2.1, x.2.1.1, x.2.2.2.1.1, x.2.2.2.1.2.1, x.2.2.2.1.2.2.1))) slices_IndexFunc_api_Delegation_api_Delegation_87_86L0E (CE := Unit) (E := (ByteArray × (List Person) × (List Delegation) × (List Duty))) (fun (c : Unit) (e : (ByteArray × (List Person) × (List Delegation) × (List Duty))) => ((()), ((e.1, ()), (((), (), ()), ()), (e.2.1, e.2.2.1, e.2.2.2, ()), ()))) (fun (c : ((List Delegation) × ByteArray × Int × Int)) => ()) (fun {R} c a nx dn rt => slices_IndexFunc_api_Delegation_api_Delegation_87_86L0K c.1 c.2.1 c.2.2.1 c.2.2.2 a.1 a.2.1 a.2.2.1 a.2.2.2.1 a.2.2.2.2 nx dn rt)], resU 19 tt [true, true, true] [.tmp 4] slices_IndexFunc_api_Delegation_api_Delegation_87_86R_ (fun (x : ((Int × Unit) × ((ByteArray × Unit) × ((Unit × Unit × Unit) × Unit) × ((List Person) × (List Delegation) × (List Duty) × Unit) × Unit))) => (x.1.1, x.2.1.1, x.2.2.2.1.1, x.2.2.2.1.2.1, x.2.2.2.1.2.2.1))⟩

theorem slices_IndexFunc_api_Delegation_api_Delegation_87_86G : CtxOK Try.prog slices_IndexFunc_api_Delegation_api_Delegation_87_86X := ⟨fits, gam_ok (AllM.all (l := [(87, roles_has_2_86M)]) ⟨roles_has_2_86_ok, trivial⟩)⟩

theorem slices_IndexFunc_api_Delegation_api_Delegation_87_86S0 : SummOK Try.prog slices_IndexFunc_api_Delegation_api_Delegation_87_86X 0 (.block 0 (.loop (subC (bodyOf Try.f78) [true, false, true, false, false]))) :=
  loop_ok (shI := slices_IndexFunc_api_Delegation_api_Delegation_87_86L0I) (shE := slices_IndexFunc_api_Delegation_api_Delegation_87_86L0E) (C := ((List Delegation) × ByteArray × Int × Int)) (S := (Int × ByteArray × (List Person) × (List Delegation) × (List Duty))) (CE := Unit) (E := (ByteArray × (List Person) × (List Delegation) × (List Duty))) (slices_IndexFunc_api_Delegation_api_Delegation_87_86G) mixed (ann := .z) (AllS.all (l := []) (by kernel_rfl) trivial) (mk := (fun (c : ((List Delegation) × ByteArray × Int × Int)) (a : (Int × ByteArray × (List Person) × (List Delegation) × (List Duty))) => ((c.1, (c.2.1, (), c.2.2.1, (), ()), c.2.2.2, a.1, ()), ((a.2.1, ()), (((), (), ()), ()), (a.2.2.1, a.2.2.2.1, a.2.2.2.2, ()), ())))) (unE := (fun (y : ((Unit) × ((ByteArray × Unit) × ((Unit × Unit × Unit) × Unit) × ((List Person) × (List Delegation) × (List Duty) × Unit) × Unit))) => ((), (y.2.1.1, y.2.2.2.1.1, y.2.2.2.1.2.1, y.2.2.2.1.2.2.1)))) rfl (fun _ => rfl) (fun _ => rfl) (fun R K D T c a => by kernel_rfl)

noncomputable abbrev slices_IndexFunc_api_Delegation_api_Delegation_87_86M : Mdl := (mdlOf (.cons (.d false (.slice Delegation.ty)) (.cons (.fn 87 (.cons (.rp false .str) (.cons (.ptr 0) (.cons (.rp false (.int .i64)) (.cons (.ptr 1) .nil))))) .nil)) [.cs 9 1 1 (.cons (.d false .str) .nil), .cs 53 1 1 (.cons (.fn 86 (.cons (.ptr 2) (.cons (.ptr 0) .nil))) .nil), .cs 26 3 1 (.cons (.d true (.slice Person.ty)) (.cons (.d true (.slice Delegation.ty)) (.cons (.d true (.slice Duty.ty)) .nil)))] [true, true, true] 1 slices_IndexFunc_api_Delegation_api_Delegation_87_86R_ (fun (b : (Int × ByteArray × (List Person) × (List Delegation) × (List Duty))) => ((b.1, ()), ((b.2.1, ()), (((), (), ()), ()), (b.2.2.1, b.2.2.2.1, b.2.2.2.2, ()), ()))) (fun (a : (((List Delegation) × (ByteArray × Unit × Int × Unit × Unit) × Unit) × ((ByteArray × Unit) × ((Unit × Unit × Unit) × Unit) × ((List Person) × (List Delegation) × (List Duty) × Unit) × Unit))) => slices_IndexFunc_api_Delegation_api_Delegation_87_86 a.1.1 a.1.2.1.1 a.1.2.1.2.2.1 a.2.1.1 a.2.2.2.1.1 a.2.2.2.1.2.1 a.2.2.2.1.2.2.1))

theorem slices_IndexFunc_api_Delegation_api_Delegation_87_86_ok : MdlOK Try.prog 78 slices_IndexFunc_api_Delegation_api_Delegation_87_86M :=
  fn_ok (c := (bodyOf Try.f78)) Try.func78 (by rfl) (by kernel_rfl) (X := slices_IndexFunc_api_Delegation_api_Delegation_87_86X) (by kernel_rfl) (rs := [.tmp 4]) (by kernel_rfl) (sh := slices_IndexFunc_api_Delegation_api_Delegation_87_86R_) (un := (fun (x : ((Int × Unit) × ((ByteArray × Unit) × ((Unit × Unit × Unit) × Unit) × ((List Person) × (List Delegation) × (List Duty) × Unit) × Unit))) => (x.1.1, x.2.1.1, x.2.2.2.1.1, x.2.2.2.1.2.1, x.2.2.2.1.2.2.1))) (mk := (fun (b : (Int × ByteArray × (List Person) × (List Delegation) × (List Duty))) => ((b.1, ()), ((b.2.1, ()), (((), (), ()), ()), (b.2.2.1, b.2.2.2.1, b.2.2.2.2, ()), ())))) (fun _ => rfl) rfl (slices_IndexFunc_api_Delegation_api_Delegation_87_86G) mixed (ann := (.two .z (.two (.two .z (.s 0)) .z))) (AllS.all (l := [(0, .block 0 (.loop (subC (bodyOf Try.f78) [true, false, true, false, false])))]) (by kernel_rfl) ⟨slices_IndexFunc_api_Delegation_api_Delegation_87_86S0, trivial⟩) (Nat.le_of_ble_eq_true (by kernel_rfl)) (by kernel_rfl) (fun a => by kernel_rfl)

/-! slices.ContainsFunc[[]casebook/api.Delegation,casebook/api.Delegation] -/

def slices_ContainsFunc_api_Delegation_api_Delegation_87_86R_ : Shp := ⟨[(0, .d true .bool)], [.cs 9 1 1 (.cons (.d true .str) .nil), .cs 53 1 1 (.cons (.fn 86 (.cons (.ptr 2) (.cons (.ptr 0) .nil))) .nil), .cs 26 3 1 (.cons (.d true (.slice Person.ty)) (.cons (.d true (.slice Delegation.ty)) (.cons (.d true (.slice Duty.ty)) .nil)))]⟩

noncomputable abbrev slices_ContainsFunc_api_Delegation_api_Delegation_87_86X : Ctx ((Bool × ByteArray × (List Person) × (List Delegation) × (List Duty))) := ⟨9, tt, false, [true, true, true], gam [(78, slices_IndexFunc_api_Delegation_api_Delegation_87_86M)], lam [], resU 9 tt [true, true, true] [.tmp 4] slices_ContainsFunc_api_Delegation_api_Delegation_87_86R_ (fun (x : ((Bool × Unit) × ((ByteArray × Unit) × ((Unit × Unit × Unit) × Unit) × ((List Person) × (List Delegation) × (List Duty) × Unit) × Unit))) => (x.1.1, x.2.1.1, x.2.2.2.1.1, x.2.2.2.1.2.1, x.2.2.2.1.2.2.1))⟩

theorem slices_ContainsFunc_api_Delegation_api_Delegation_87_86G : CtxOK Try.prog slices_ContainsFunc_api_Delegation_api_Delegation_87_86X := ⟨fits, gam_ok (AllM.all (l := [(78, slices_IndexFunc_api_Delegation_api_Delegation_87_86M)]) ⟨slices_IndexFunc_api_Delegation_api_Delegation_87_86_ok, trivial⟩)⟩

noncomputable abbrev slices_ContainsFunc_api_Delegation_api_Delegation_87_86M : Mdl := (mdlOf (.cons (.d false (.slice Delegation.ty)) (.cons (.fn 87 (.cons (.rp false .str) (.cons (.ptr 0) (.cons (.rp false (.int .i64)) (.cons (.ptr 1) .nil))))) .nil)) [.cs 9 1 1 (.cons (.d false .str) .nil), .cs 53 1 1 (.cons (.fn 86 (.cons (.ptr 2) (.cons (.ptr 0) .nil))) .nil), .cs 26 3 1 (.cons (.d true (.slice Person.ty)) (.cons (.d true (.slice Delegation.ty)) (.cons (.d true (.slice Duty.ty)) .nil)))] [true, true, true] 1 slices_ContainsFunc_api_Delegation_api_Delegation_87_86R_ (fun (b : (Bool × ByteArray × (List Person) × (List Delegation) × (List Duty))) => ((b.1, ()), ((b.2.1, ()), (((), (), ()), ()), (b.2.2.1, b.2.2.2.1, b.2.2.2.2, ()), ()))) (fun (a : (((List Delegation) × (ByteArray × Unit × Int × Unit × Unit) × Unit) × ((ByteArray × Unit) × ((Unit × Unit × Unit) × Unit) × ((List Person) × (List Delegation) × (List Duty) × Unit) × Unit))) => slices_ContainsFunc_api_Delegation_api_Delegation_87_86 a.1.1 a.1.2.1.1 a.1.2.1.2.2.1 a.2.1.1 a.2.2.2.1.1 a.2.2.2.1.2.1 a.2.2.2.1.2.2.1))

theorem slices_ContainsFunc_api_Delegation_api_Delegation_87_86_ok : MdlOK Try.prog 37 slices_ContainsFunc_api_Delegation_api_Delegation_87_86M :=
  fn_ok (c := (bodyOf Try.f37)) Try.func37 (by rfl) (by kernel_rfl) (X := slices_ContainsFunc_api_Delegation_api_Delegation_87_86X) (by kernel_rfl) (rs := [.tmp 4]) (by kernel_rfl) (sh := slices_ContainsFunc_api_Delegation_api_Delegation_87_86R_) (un := (fun (x : ((Bool × Unit) × ((ByteArray × Unit) × ((Unit × Unit × Unit) × Unit) × ((List Person) × (List Delegation) × (List Duty) × Unit) × Unit))) => (x.1.1, x.2.1.1, x.2.2.2.1.1, x.2.2.2.1.2.1, x.2.2.2.1.2.2.1))) (mk := (fun (b : (Bool × ByteArray × (List Person) × (List Delegation) × (List Duty))) => ((b.1, ()), ((b.2.1, ()), (((), (), ()), ()), (b.2.2.1, b.2.2.2.1, b.2.2.2.2, ()), ())))) (fun _ => rfl) rfl (slices_ContainsFunc_api_Delegation_api_Delegation_87_86G) mixed (ann := .z) (AllS.all (l := []) (by kernel_rfl) trivial) (Nat.le_of_ble_eq_true (by kernel_rfl)) (by kernel_rfl) (fun a => by kernel_rfl)

/-! casebook/roles.has -/

def roles_hasR_ : Shp := ⟨[(0, .d true .bool)], []⟩

noncomputable abbrev roles_hasX : Ctx (Bool) := ⟨20, tt, false, [], gam [(86, roles_has_1M), (37, slices_ContainsFunc_api_Delegation_api_Delegation_87_86M)], lam [], resU 20 tt [] [.tmp 8] roles_hasR_ (fun (x : ((Bool × Unit) × (Unit))) => x.1.1)⟩

theorem roles_hasG : CtxOK Try.prog roles_hasX := ⟨fits, gam_ok (AllM.all (l := [(86, roles_has_1M), (37, slices_ContainsFunc_api_Delegation_api_Delegation_87_86M)]) ⟨roles_has_1_ok, slices_ContainsFunc_api_Delegation_api_Delegation_87_86_ok, trivial⟩)⟩

noncomputable abbrev roles_hasM : Mdl := (mdlOf (.cons (.d true Org.ty) (.cons (.d false .str) (.cons (.d false .str) (.cons (.d false (.int .i64)) .nil)))) [] [] 1 roles_hasR_ (fun (b : Bool) => ((b, ()), (()))) (fun (a : ((Org × ByteArray × ByteArray × Int × Unit) × (Unit))) => roles_has a.1.1 a.1.2.1 a.1.2.2.1 a.1.2.2.2.1))

theorem roles_has_ok : MdlOK Try.prog 55 roles_hasM :=
  fn_ok (c := (bodyOf Try.f55)) Try.func55 (by rfl) (by kernel_rfl) (X := roles_hasX) (by kernel_rfl) (rs := [.tmp 8]) (by kernel_rfl) (sh := roles_hasR_) (un := (fun (x : ((Bool × Unit) × (Unit))) => x.1.1)) (mk := (fun (b : Bool) => ((b, ()), (())))) (fun _ => rfl) rfl (roles_hasG) mixed (ann := .z) (AllS.all (l := []) (by kernel_rfl) trivial) (Nat.le_of_ble_eq_true (by kernel_rfl)) (by kernel_rfl) (fun a => by kernel_rfl)

/-! casebook/roles.Has -/

def roles_HasR_ : Shp := ⟨[(0, .d true .bool), (1, .d true (.int .i64))], []⟩

noncomputable abbrev roles_HasX : Ctx ((Bool × Int)) := ⟨34, tt, false, [], gam [(22, roles_ValidM), (53, roles_namesM), (54, roles_instantM), (46, roles_findM), (55, roles_hasM)], lam [], resU 34 tt [] [.tmp 8, .tmp 9] roles_HasR_ (fun (x : ((Bool × Int × Unit) × (Unit))) => (x.1.1, x.1.2.1))⟩

theorem roles_HasG : CtxOK Try.prog roles_HasX := ⟨fits, gam_ok (AllM.all (l := [(22, roles_ValidM), (53, roles_namesM), (54, roles_instantM), (46, roles_findM), (55, roles_hasM)]) ⟨roles_Valid_ok, roles_names_ok, roles_instant_ok, roles_find_ok, roles_has_ok, trivial⟩)⟩

noncomputable abbrev roles_HasM : Mdl := (mdlOf (.cons (.d true Org.ty) (.cons (.d false .str) (.cons (.d false .str) (.cons (.d false (.int .i64)) .nil)))) [] [] 2 roles_HasR_ (fun (b : (Bool × Int)) => ((b.1, b.2, ()), (()))) (fun (a : ((Org × ByteArray × ByteArray × Int × Unit) × (Unit))) => roles_Has a.1.1 a.1.2.1 a.1.2.2.1 a.1.2.2.2.1))

theorem roles_Has_ok : MdlOK Try.prog 16 roles_HasM :=
  fn_ok (c := (bodyOf Try.f16)) Try.func16 (by rfl) (by kernel_rfl) (X := roles_HasX) (by kernel_rfl) (rs := [.tmp 8, .tmp 9]) (by kernel_rfl) (sh := roles_HasR_) (un := (fun (x : ((Bool × Int × Unit) × (Unit))) => (x.1.1, x.1.2.1))) (mk := (fun (b : (Bool × Int)) => ((b.1, b.2, ()), (())))) (fun _ => rfl) rfl (roles_HasG) mixed (ann := .z) (AllS.all (l := []) (by kernel_rfl) trivial) (Nat.le_of_ble_eq_true (by kernel_rfl)) (by kernel_rfl) (fun a => by kernel_rfl)

/-! casebook/roles.past$1 -/

def roles_past_1R_ : Shp := ⟨[(0, .d true .bool)], []⟩

noncomputable abbrev roles_past_1X : Ctx (Bool) := ⟨15, tt, false, [], gam [(64, name_IsNameM), (46, roles_findM)], lam [], resU 15 tt [] [.tmp 3] roles_past_1R_ (fun (x : ((Bool × Unit) × (Unit))) => x.1.1)⟩

theorem roles_past_1G : CtxOK Try.prog roles_past_1X := ⟨fits, gam_ok (AllM.all (l := [(64, name_IsNameM), (46, roles_findM)]) ⟨name_IsName_ok, roles_find_ok, trivial⟩)⟩

noncomputable abbrev roles_past_1M : Mdl := (mdlOf (.cons (.d false Task.ty) (.cons (.rp false Org.ty) .nil)) [] [] 1 roles_past_1R_ (fun (b : Bool) => ((b, ()), (()))) (fun (a : ((Task × Org × Unit) × (Unit))) => roles_past_1 a.1.1 a.1.2.1))

theorem roles_past_1_ok : MdlOK Try.prog 88 roles_past_1M :=
  fn_ok (c := (bodyOf Try.f88)) Try.func88 (by rfl) (by kernel_rfl) (X := roles_past_1X) (by kernel_rfl) (rs := [.tmp 3]) (by kernel_rfl) (sh := roles_past_1R_) (un := (fun (x : ((Bool × Unit) × (Unit))) => x.1.1)) (mk := (fun (b : Bool) => ((b, ()), (())))) (fun _ => rfl) rfl (roles_past_1G) mixed (ann := .z) (AllS.all (l := []) (by kernel_rfl) trivial) (Nat.le_of_ble_eq_true (by kernel_rfl)) (by kernel_rfl) (fun a => by kernel_rfl)

/-! slices.IndexFunc[[]casebook/api.Task,casebook/api.Task] -/

def slices_IndexFunc_api_Task_api_Task_88R_ : Shp := ⟨[(0, .d true (.int .i64))], []⟩

noncomputable abbrev slices_IndexFunc_api_Task_api_Task_88X : Ctx (Int) := ⟨19, tt, false, [], gam [(88, roles_past_1M)], lam [loopSumm (Int) 19 [] slices_IndexFunc_api_Task_api_Task_88L0I (C := ((List Task) × Org × Int)) (S := Int) (fun (x : (((List Task) × (Org × Unit) × Int × Int × Unit) × (Unit))) => ((x.1.1, x.1.2.1.1, x.1.2.2.1), x.1.2.2.2.1)) slices_IndexFunc_api_Task_api_Task_88L0E (CE := Unit) (E := Unit) (fun (c : Unit) (e : Unit) => ((()), (()))) (fun (c : ((List Task) × Org × Int)) => ()) (fun {R} c a nx dn rt => slices_IndexFunc_api_Task_api_Task_88L0K c.1 c.2.1 c.2.2 a nx dn rt)], resU 19 tt [] [.tmp 4] slices_IndexFunc_api_Task_api_Task_88R_ (fun (x : ((Int × Unit) × (Unit))) => x.1.1)⟩

theorem slices_IndexFunc_api_Task_api_Task_88G : CtxOK Try.prog slices_IndexFunc_api_Task_api_Task_88X := ⟨fits, gam_ok (AllM.all (l := [(88, roles_past_1M)]) ⟨roles_past_1_ok, trivial⟩)⟩

theorem slices_IndexFunc_api_Task_api_Task_88S0 : SummOK Try.prog slices_IndexFunc_api_Task_api_Task_88X 0 (.block 0 (.loop (subC (bodyOf Try.f81) [true, false, true, false, false]))) :=
  loop_ok (shI := slices_IndexFunc_api_Task_api_Task_88L0I) (shE := slices_IndexFunc_api_Task_api_Task_88L0E) (C := ((List Task) × Org × Int)) (S := Int) (CE := Unit) (E := Unit) (slices_IndexFunc_api_Task_api_Task_88G) mixed (ann := .z) (AllS.all (l := []) (by kernel_rfl) trivial) (mk := (fun (c : ((List Task) × Org × Int)) (a : Int) => ((c.1, (c.2.1, ()), c.2.2, a, ()), (())))) (unE := (fun (y : ((Unit) × (Unit))) => ((), ()))) rfl (fun _ => rfl) (fun _ => rfl) (fun R K D T c a => by kernel_rfl)

noncomputable abbrev slices_IndexFunc_api_Task_api_Task_88M : Mdl := (mdlOf (.cons (.d false (.slice Task.ty)) (.cons (.fn 88 (.cons (.rp false Org.ty) .nil)) .nil)) [] [] 1 slices_IndexFunc_api_Task_api_Task_88R_ (fun (b : Int) => ((b, ()), (()))) (fun (a : (((List Task) × (Org × Unit) × Unit) × (Unit))) => slices_IndexFunc_api_Task_api_Task_88 a.1.1 a.1.2.1.1))

theorem slices_IndexFunc_api_Task_api_Task_88_ok : MdlOK Try.prog 81 slices_IndexFunc_api_Task_api_Task_88M :=
  fn_ok (c := (bodyOf Try.f81)) Try.func81 (by rfl) (by kernel_rfl) (X := slices_IndexFunc_api_Task_api_Task_88X) (by kernel_rfl) (rs := [.tmp 4]) (by kernel_rfl) (sh := slices_IndexFunc_api_Task_api_Task_88R_) (un := (fun (x : ((Int × Unit) × (Unit))) => x.1.1)) (mk := (fun (b : Int) => ((b, ()), (())))) (fun _ => rfl) rfl (slices_IndexFunc_api_Task_api_Task_88G) mixed (ann := (.two .z (.two (.two .z (.s 0)) .z))) (AllS.all (l := [(0, .block 0 (.loop (subC (bodyOf Try.f81) [true, false, true, false, false])))]) (by kernel_rfl) ⟨slices_IndexFunc_api_Task_api_Task_88S0, trivial⟩) (Nat.le_of_ble_eq_true (by kernel_rfl)) (by kernel_rfl) (fun a => by kernel_rfl)

/-! slices.ContainsFunc[[]casebook/api.Task,casebook/api.Task] -/

def slices_ContainsFunc_api_Task_api_Task_88R_ : Shp := ⟨[(0, .d true .bool)], []⟩

noncomputable abbrev slices_ContainsFunc_api_Task_api_Task_88X : Ctx (Bool) := ⟨9, tt, false, [], gam [(81, slices_IndexFunc_api_Task_api_Task_88M)], lam [], resU 9 tt [] [.tmp 4] slices_ContainsFunc_api_Task_api_Task_88R_ (fun (x : ((Bool × Unit) × (Unit))) => x.1.1)⟩

theorem slices_ContainsFunc_api_Task_api_Task_88G : CtxOK Try.prog slices_ContainsFunc_api_Task_api_Task_88X := ⟨fits, gam_ok (AllM.all (l := [(81, slices_IndexFunc_api_Task_api_Task_88M)]) ⟨slices_IndexFunc_api_Task_api_Task_88_ok, trivial⟩)⟩

noncomputable abbrev slices_ContainsFunc_api_Task_api_Task_88M : Mdl := (mdlOf (.cons (.d false (.slice Task.ty)) (.cons (.fn 88 (.cons (.rp false Org.ty) .nil)) .nil)) [] [] 1 slices_ContainsFunc_api_Task_api_Task_88R_ (fun (b : Bool) => ((b, ()), (()))) (fun (a : (((List Task) × (Org × Unit) × Unit) × (Unit))) => slices_ContainsFunc_api_Task_api_Task_88 a.1.1 a.1.2.1.1))

theorem slices_ContainsFunc_api_Task_api_Task_88_ok : MdlOK Try.prog 43 slices_ContainsFunc_api_Task_api_Task_88M :=
  fn_ok (c := (bodyOf Try.f43)) Try.func43 (by rfl) (by kernel_rfl) (X := slices_ContainsFunc_api_Task_api_Task_88X) (by kernel_rfl) (rs := [.tmp 4]) (by kernel_rfl) (sh := slices_ContainsFunc_api_Task_api_Task_88R_) (un := (fun (x : ((Bool × Unit) × (Unit))) => x.1.1)) (mk := (fun (b : Bool) => ((b, ()), (())))) (fun _ => rfl) rfl (slices_ContainsFunc_api_Task_api_Task_88G) mixed (ann := .z) (AllS.all (l := []) (by kernel_rfl) trivial) (Nat.le_of_ble_eq_true (by kernel_rfl)) (by kernel_rfl) (fun a => by kernel_rfl)

/-! casebook/roles.past -/

def roles_pastR_ : Shp := ⟨[(0, .d true (.int .i64))], []⟩

noncomputable abbrev roles_pastX : Ctx (Int) := ⟨11, tt, false, [], gam [(43, slices_ContainsFunc_api_Task_api_Task_88M)], lam [], resU 11 tt [] [.tmp 4] roles_pastR_ (fun (x : ((Int × Unit) × (Unit))) => x.1.1)⟩

theorem roles_pastG : CtxOK Try.prog roles_pastX := ⟨fits, gam_ok (AllM.all (l := [(43, slices_ContainsFunc_api_Task_api_Task_88M)]) ⟨slices_ContainsFunc_api_Task_api_Task_88_ok, trivial⟩)⟩

noncomputable abbrev roles_pastM : Mdl := (mdlOf (.cons (.d false Org.ty) (.cons (.d false (.slice Task.ty)) .nil)) [] [] 1 roles_pastR_ (fun (b : Int) => ((b, ()), (()))) (fun (a : ((Org × (List Task) × Unit) × (Unit))) => roles_past a.1.1 a.1.2.1))

theorem roles_past_ok : MdlOK Try.prog 58 roles_pastM :=
  fn_ok (c := (bodyOf Try.f58)) Try.func58 (by rfl) (by kernel_rfl) (X := roles_pastX) (by kernel_rfl) (rs := [.tmp 4]) (by kernel_rfl) (sh := roles_pastR_) (un := (fun (x : ((Int × Unit) × (Unit))) => x.1.1)) (mk := (fun (b : Int) => ((b, ()), (())))) (fun _ => rfl) rfl (roles_pastG) mixed (ann := .z) (AllS.all (l := []) (by kernel_rfl) trivial) (Nat.le_of_ble_eq_true (by kernel_rfl)) (by kernel_rfl) (fun a => by kernel_rfl)

/-! casebook/roles.broken$1$1 -/

def roles_broken_1_1R_ : Shp := ⟨[(0, .d true .bool)], []⟩

noncomputable abbrev roles_broken_1_1X : Ctx (Bool) := ⟨48, tt, false, [], gam [], lam [joinSumm (Bool) 48 [] roles_broken_1_1T0I (A := (Duty × ByteArray × Bool × ByteArray × ByteArray)) (fun (x : ((Duty × ByteArray × Unit × Bool × Unit) × ((ByteArray × ByteArray × Unit) × Unit))) => (x.1.1, x.1.2.1, x.1.2.2.2.1, x.2.1.1, x.2.1.2.1)) roles_broken_1_1T0E (CE := Unit) (E := Unit) (fun (c : Unit) (e : Unit) => ((()), (()))) (fun (c : (Duty × ByteArray × Bool × ByteArray × ByteArray)) => ()) (fun {R} c dn rt => roles_broken_1_1T0K c.1 c.2.1 c.2.2.1 c.2.2.2.1 c.2.2.2.2 dn rt)], resU 48 tt [] [.tmp 5] roles_broken_1_1R_ (fun (x : ((Bool × Unit) × (Unit))) => x.1.1)⟩

theorem roles_broken_1_1G : CtxOK Try.prog roles_broken_1_1X := ⟨fits, gam_ok (AllM.all (l := []) trivial)⟩

theorem roles_broken_1_1S0 : SummOK Try.prog roles_broken_1_1X 0 (subC (bodyOf Try.f90) [true, true]) :=
  join_ok (shI := roles_broken_1_1T0I) (shE := roles_broken_1_1T0E) (A := (Duty × ByteArray × Bool × ByteArray × ByteArray)) (CE := Unit) (E := Unit) (roles_broken_1_1G) mixed (ann := .z) (AllS.all (l := []) (by kernel_rfl) trivial) (mk := (fun (c : (Duty × ByteArray × Bool × ByteArray × ByteArray)) => ((c.1, c.2.1, (), c.2.2.1, ()), ((c.2.2.2.1, c.2.2.2.2, ()), ())))) (unE := (fun (y : ((Unit) × (Unit))) => ((), ()))) rfl (fun _ => rfl) (fun _ => rfl) (fun R D T c => by kernel_rfl)

noncomputable abbrev roles_broken_1_1M : Mdl := (mdlOf (.cons (.d false Task.ty) (.cons (.rp false .str) (.cons (.rp false Duty.ty) (.cons (.rp false .str) .nil)))) [] [] 1 roles_broken_1_1R_ (fun (b : Bool) => ((b, ()), (()))) (fun (a : ((Task × ByteArray × Duty × ByteArray × Unit) × (Unit))) => roles_broken_1_1 a.1.1 a.1.2.1 a.1.2.2.1 a.1.2.2.2.1))

theorem roles_broken_1_1_ok : MdlOK Try.prog 90 roles_broken_1_1M :=
  fn_ok (c := (bodyOf Try.f90)) Try.func90 (by rfl) (by kernel_rfl) (X := roles_broken_1_1X) (by kernel_rfl) (rs := [.tmp 5]) (by kernel_rfl) (sh := roles_broken_1_1R_) (un := (fun (x : ((Bool × Unit) × (Unit))) => x.1.1)) (mk := (fun (b : Bool) => ((b, ()), (())))) (fun _ => rfl) rfl (roles_broken_1_1G) mixed (ann := (.two .z (.two .z (.s 0)))) (AllS.all (l := [(0, subC (bodyOf Try.f90) [true, true])]) (by kernel_rfl) ⟨roles_broken_1_1S0, trivial⟩) (Nat.le_of_ble_eq_true (by kernel_rfl)) (by kernel_rfl) (fun a => by kernel_rfl)

/-! slices.IndexFunc[[]casebook/api.Task,casebook/api.Task] -/

def slices_IndexFunc_api_Task_api_Task_90R_ : Shp := ⟨[(0, .d true (.int .i64))], []⟩

noncomputable abbrev slices_IndexFunc_api_Task_api_Task_90X : Ctx (Int) := ⟨19, tt, false, [], gam [(90, roles_broken_1_1M)], lam [loopSumm (Int) 19 [] slices_IndexFunc_api_Task_api_Task_90L0I (C := ((List Task) × ByteArray × Duty × ByteArray × Int)) (S := Int) (fun (x : (((List Task) × (ByteArray × Duty × ByteArray × Unit) × Int × Int × Unit) × (Unit))) => ((x.1.1, x.1.2.1.1, x.1.2.1.2.1, x.1.2.1.2.2.1, x.1.2.2.1), x.1.2.2.2.1)) slices_IndexFunc_api_Task_api_Task_90L0E (CE := Unit) (E := Unit) (fun (c : Unit) (e : Unit) => ((()), (()))) (fun (c : ((List Task) × ByteArray × Duty × ByteArray × Int)) => ()) (fun {R} c a nx dn rt => slices_IndexFunc_api_Task_api_Task_90L0K c.1 c.2.1 c.2.2.1 c.2.2.2.1 c.2.2.2.2 a nx dn rt)], resU 19 tt [] [.tmp 4] slices_IndexFunc_api_Task_api_Task_90R_ (fun (x : ((Int × Unit) × (Unit))) => x.1.1)⟩

theorem slices_IndexFunc_api_Task_api_Task_90G : CtxOK Try.prog slices_IndexFunc_api_Task_api_Task_90X := ⟨fits, gam_ok (AllM.all (l := [(90, roles_broken_1_1M)]) ⟨roles_broken_1_1_ok, trivial⟩)⟩

theorem slices_IndexFunc_api_Task_api_Task_90S0 : SummOK Try.prog slices_IndexFunc_api_Task_api_Task_90X 0 (.block 0 (.loop (subC (bodyOf Try.f81) [true, false, true, false, false]))) :=
  loop_ok (shI := slices_IndexFunc_api_Task_api_Task_90L0I) (shE := slices_IndexFunc_api_Task_api_Task_90L0E) (C := ((List Task) × ByteArray × Duty × ByteArray × Int)) (S := Int) (CE := Unit) (E := Unit) (slices_IndexFunc_api_Task_api_Task_90G) mixed (ann := .z) (AllS.all (l := []) (by kernel_rfl) trivial) (mk := (fun (c : ((List Task) × ByteArray × Duty × ByteArray × Int)) (a : Int) => ((c.1, (c.2.1, c.2.2.1, c.2.2.2.1, ()), c.2.2.2.2, a, ()), (())))) (unE := (fun (y : ((Unit) × (Unit))) => ((), ()))) rfl (fun _ => rfl) (fun _ => rfl) (fun R K D T c a => by kernel_rfl)

noncomputable abbrev slices_IndexFunc_api_Task_api_Task_90M : Mdl := (mdlOf (.cons (.d false (.slice Task.ty)) (.cons (.fn 90 (.cons (.rp false .str) (.cons (.rp false Duty.ty) (.cons (.rp false .str) .nil)))) .nil)) [] [] 1 slices_IndexFunc_api_Task_api_Task_90R_ (fun (b : Int) => ((b, ()), (()))) (fun (a : (((List Task) × (ByteArray × Duty × ByteArray × Unit) × Unit) × (Unit))) => slices_IndexFunc_api_Task_api_Task_90 a.1.1 a.1.2.1.1 a.1.2.1.2.1 a.1.2.1.2.2.1))

theorem slices_IndexFunc_api_Task_api_Task_90_ok : MdlOK Try.prog 81 slices_IndexFunc_api_Task_api_Task_90M :=
  fn_ok (c := (bodyOf Try.f81)) Try.func81 (by rfl) (by kernel_rfl) (X := slices_IndexFunc_api_Task_api_Task_90X) (by kernel_rfl) (rs := [.tmp 4]) (by kernel_rfl) (sh := slices_IndexFunc_api_Task_api_Task_90R_) (un := (fun (x : ((Int × Unit) × (Unit))) => x.1.1)) (mk := (fun (b : Int) => ((b, ()), (())))) (fun _ => rfl) rfl (slices_IndexFunc_api_Task_api_Task_90G) mixed (ann := (.two .z (.two (.two .z (.s 0)) .z))) (AllS.all (l := [(0, .block 0 (.loop (subC (bodyOf Try.f81) [true, false, true, false, false])))]) (by kernel_rfl) ⟨slices_IndexFunc_api_Task_api_Task_90S0, trivial⟩) (Nat.le_of_ble_eq_true (by kernel_rfl)) (by kernel_rfl) (fun a => by kernel_rfl)

/-! slices.ContainsFunc[[]casebook/api.Task,casebook/api.Task] -/

def slices_ContainsFunc_api_Task_api_Task_90R_ : Shp := ⟨[(0, .d true .bool)], []⟩

noncomputable abbrev slices_ContainsFunc_api_Task_api_Task_90X : Ctx (Bool) := ⟨9, tt, false, [], gam [(81, slices_IndexFunc_api_Task_api_Task_90M)], lam [], resU 9 tt [] [.tmp 4] slices_ContainsFunc_api_Task_api_Task_90R_ (fun (x : ((Bool × Unit) × (Unit))) => x.1.1)⟩

theorem slices_ContainsFunc_api_Task_api_Task_90G : CtxOK Try.prog slices_ContainsFunc_api_Task_api_Task_90X := ⟨fits, gam_ok (AllM.all (l := [(81, slices_IndexFunc_api_Task_api_Task_90M)]) ⟨slices_IndexFunc_api_Task_api_Task_90_ok, trivial⟩)⟩

noncomputable abbrev slices_ContainsFunc_api_Task_api_Task_90M : Mdl := (mdlOf (.cons (.d false (.slice Task.ty)) (.cons (.fn 90 (.cons (.rp false .str) (.cons (.rp false Duty.ty) (.cons (.rp false .str) .nil)))) .nil)) [] [] 1 slices_ContainsFunc_api_Task_api_Task_90R_ (fun (b : Bool) => ((b, ()), (()))) (fun (a : (((List Task) × (ByteArray × Duty × ByteArray × Unit) × Unit) × (Unit))) => slices_ContainsFunc_api_Task_api_Task_90 a.1.1 a.1.2.1.1 a.1.2.1.2.1 a.1.2.1.2.2.1))

theorem slices_ContainsFunc_api_Task_api_Task_90_ok : MdlOK Try.prog 43 slices_ContainsFunc_api_Task_api_Task_90M :=
  fn_ok (c := (bodyOf Try.f43)) Try.func43 (by rfl) (by kernel_rfl) (X := slices_ContainsFunc_api_Task_api_Task_90X) (by kernel_rfl) (rs := [.tmp 4]) (by kernel_rfl) (sh := slices_ContainsFunc_api_Task_api_Task_90R_) (un := (fun (x : ((Bool × Unit) × (Unit))) => x.1.1)) (mk := (fun (b : Bool) => ((b, ()), (())))) (fun _ => rfl) rfl (slices_ContainsFunc_api_Task_api_Task_90G) mixed (ann := .z) (AllS.all (l := []) (by kernel_rfl) trivial) (Nat.le_of_ble_eq_true (by kernel_rfl)) (by kernel_rfl) (fun a => by kernel_rfl)

/-! casebook/roles.broken$1 -/

def roles_broken_1R_ : Shp := ⟨[(0, .d true .bool)], []⟩

noncomputable abbrev roles_broken_1X : Ctx (Bool) := ⟨9, tt, false, [], gam [(43, slices_ContainsFunc_api_Task_api_Task_90M)], lam [], resU 9 tt [] [.tmp 5] roles_broken_1R_ (fun (x : ((Bool × Unit) × (Unit))) => x.1.1)⟩

theorem roles_broken_1G : CtxOK Try.prog roles_broken_1X := ⟨fits, gam_ok (AllM.all (l := [(43, slices_ContainsFunc_api_Task_api_Task_90M)]) ⟨slices_ContainsFunc_api_Task_api_Task_90_ok, trivial⟩)⟩

noncomputable abbrev roles_broken_1M : Mdl := (mdlOf (.cons (.d false Duty.ty) (.cons (.rp false (.slice Task.ty)) (.cons (.rp false .str) (.cons (.rp false .str) .nil)))) [] [] 1 roles_broken_1R_ (fun (b : Bool) => ((b, ()), (()))) (fun (a : ((Duty × (List Task) × ByteArray × ByteArray × Unit) × (Unit))) => roles_broken_1 a.1.1 a.1.2.1 a.1.2.2.1 a.1.2.2.2.1))

theorem roles_broken_1_ok : MdlOK Try.prog 89 roles_broken_1M :=
  fn_ok (c := (bodyOf Try.f89)) Try.func89 (by rfl) (by kernel_rfl) (X := roles_broken_1X) (by kernel_rfl) (rs := [.tmp 5]) (by kernel_rfl) (sh := roles_broken_1R_) (un := (fun (x : ((Bool × Unit) × (Unit))) => x.1.1)) (mk := (fun (b : Bool) => ((b, ()), (())))) (fun _ => rfl) rfl (roles_broken_1G) mixed (ann := .z) (AllS.all (l := []) (by kernel_rfl) trivial) (Nat.le_of_ble_eq_true (by kernel_rfl)) (by kernel_rfl) (fun a => by kernel_rfl)

/-! slices.IndexFunc[[]casebook/api.Duty,casebook/api.Duty] -/

def slices_IndexFunc_api_Duty_api_Duty_89R_ : Shp := ⟨[(0, .d true (.int .i64))], []⟩

noncomputable abbrev slices_IndexFunc_api_Duty_api_Duty_89X : Ctx (Int) := ⟨19, tt, false, [], gam [(89, roles_broken_1M)], lam [loopSumm (Int) 19 [] slices_IndexFunc_api_Duty_api_Duty_89L0I (C := ((List Duty) × (List Task) × ByteArray × ByteArray × Int)) (S := Int) (fun (x : (((List Duty) × ((List Task) × ByteArray × ByteArray × Unit) × Int × Int × Unit) × (Unit))) => ((x.1.1, x.1.2.1.1, x.1.2.1.2.1, x.1.2.1.2.2.1, x.1.2.2.1), x.1.2.2.2.1)) slices_IndexFunc_api_Duty_api_Duty_89L0E (CE := Unit) (E := Unit) (fun (c : Unit) (e : Unit) => ((()), (()))) (fun (c : ((List Duty) × (List Task) × ByteArray × ByteArray × Int)) => ()) (fun {R} c a nx dn rt => slices_IndexFunc_api_Duty_api_Duty_89L0K c.1 c.2.1 c.2.2.1 c.2.2.2.1 c.2.2.2.2 a nx dn rt)], resU 19 tt [] [.tmp 4] slices_IndexFunc_api_Duty_api_Duty_89R_ (fun (x : ((Int × Unit) × (Unit))) => x.1.1)⟩

theorem slices_IndexFunc_api_Duty_api_Duty_89G : CtxOK Try.prog slices_IndexFunc_api_Duty_api_Duty_89X := ⟨fits, gam_ok (AllM.all (l := [(89, roles_broken_1M)]) ⟨roles_broken_1_ok, trivial⟩)⟩

theorem slices_IndexFunc_api_Duty_api_Duty_89S0 : SummOK Try.prog slices_IndexFunc_api_Duty_api_Duty_89X 0 (.block 0 (.loop (subC (bodyOf Try.f79) [true, false, true, false, false]))) :=
  loop_ok (shI := slices_IndexFunc_api_Duty_api_Duty_89L0I) (shE := slices_IndexFunc_api_Duty_api_Duty_89L0E) (C := ((List Duty) × (List Task) × ByteArray × ByteArray × Int)) (S := Int) (CE := Unit) (E := Unit) (slices_IndexFunc_api_Duty_api_Duty_89G) mixed (ann := .z) (AllS.all (l := []) (by kernel_rfl) trivial) (mk := (fun (c : ((List Duty) × (List Task) × ByteArray × ByteArray × Int)) (a : Int) => ((c.1, (c.2.1, c.2.2.1, c.2.2.2.1, ()), c.2.2.2.2, a, ()), (())))) (unE := (fun (y : ((Unit) × (Unit))) => ((), ()))) rfl (fun _ => rfl) (fun _ => rfl) (fun R K D T c a => by kernel_rfl)

noncomputable abbrev slices_IndexFunc_api_Duty_api_Duty_89M : Mdl := (mdlOf (.cons (.d false (.slice Duty.ty)) (.cons (.fn 89 (.cons (.rp false (.slice Task.ty)) (.cons (.rp false .str) (.cons (.rp false .str) .nil)))) .nil)) [] [] 1 slices_IndexFunc_api_Duty_api_Duty_89R_ (fun (b : Int) => ((b, ()), (()))) (fun (a : (((List Duty) × ((List Task) × ByteArray × ByteArray × Unit) × Unit) × (Unit))) => slices_IndexFunc_api_Duty_api_Duty_89 a.1.1 a.1.2.1.1 a.1.2.1.2.1 a.1.2.1.2.2.1))

theorem slices_IndexFunc_api_Duty_api_Duty_89_ok : MdlOK Try.prog 79 slices_IndexFunc_api_Duty_api_Duty_89M :=
  fn_ok (c := (bodyOf Try.f79)) Try.func79 (by rfl) (by kernel_rfl) (X := slices_IndexFunc_api_Duty_api_Duty_89X) (by kernel_rfl) (rs := [.tmp 4]) (by kernel_rfl) (sh := slices_IndexFunc_api_Duty_api_Duty_89R_) (un := (fun (x : ((Int × Unit) × (Unit))) => x.1.1)) (mk := (fun (b : Int) => ((b, ()), (())))) (fun _ => rfl) rfl (slices_IndexFunc_api_Duty_api_Duty_89G) mixed (ann := (.two .z (.two (.two .z (.s 0)) .z))) (AllS.all (l := [(0, .block 0 (.loop (subC (bodyOf Try.f79) [true, false, true, false, false])))]) (by kernel_rfl) ⟨slices_IndexFunc_api_Duty_api_Duty_89S0, trivial⟩) (Nat.le_of_ble_eq_true (by kernel_rfl)) (by kernel_rfl) (fun a => by kernel_rfl)

/-! casebook/roles.broken -/

def roles_brokenR_ : Shp := ⟨[(0, .d true (.int .i64))], []⟩

noncomputable abbrev roles_brokenX : Ctx (Int) := ⟨13, tt, false, [], gam [(79, slices_IndexFunc_api_Duty_api_Duty_89M)], lam [], resU 13 tt [] [.tmp 8] roles_brokenR_ (fun (x : ((Int × Unit) × (Unit))) => x.1.1)⟩

theorem roles_brokenG : CtxOK Try.prog roles_brokenX := ⟨fits, gam_ok (AllM.all (l := [(79, slices_IndexFunc_api_Duty_api_Duty_89M)]) ⟨slices_IndexFunc_api_Duty_api_Duty_89_ok, trivial⟩)⟩

noncomputable abbrev roles_brokenM : Mdl := (mdlOf (.cons (.d false Org.ty) (.cons (.d false .str) (.cons (.d false .str) (.cons (.d false (.slice Task.ty)) .nil)))) [] [] 1 roles_brokenR_ (fun (b : Int) => ((b, ()), (()))) (fun (a : ((Org × ByteArray × ByteArray × (List Task) × Unit) × (Unit))) => roles_broken a.1.1 a.1.2.1 a.1.2.2.1 a.1.2.2.2.1))

theorem roles_broken_ok : MdlOK Try.prog 59 roles_brokenM :=
  fn_ok (c := (bodyOf Try.f59)) Try.func59 (by rfl) (by kernel_rfl) (X := roles_brokenX) (by kernel_rfl) (rs := [.tmp 8]) (by kernel_rfl) (sh := roles_brokenR_) (un := (fun (x : ((Int × Unit) × (Unit))) => x.1.1)) (mk := (fun (b : Int) => ((b, ()), (())))) (fun _ => rfl) rfl (roles_brokenG) mixed (ann := .z) (AllS.all (l := []) (by kernel_rfl) trivial) (Nat.le_of_ble_eq_true (by kernel_rfl)) (by kernel_rfl) (fun a => by kernel_rfl)

/-! casebook/roles.Forbids -/

def roles_ForbidsR_ : Shp := ⟨[(0, .d true (.int .i64)), (1, .d true (.int .i64))], []⟩

noncomputable abbrev roles_ForbidsX : Ctx ((Int × Int)) := ⟨35, tt, false, [], gam [(22, roles_ValidM), (53, roles_namesM), (46, roles_findM), (58, roles_pastM), (59, roles_brokenM)], lam [], resU 35 tt [] [.tmp 8, .tmp 9] roles_ForbidsR_ (fun (x : ((Int × Int × Unit) × (Unit))) => (x.1.1, x.1.2.1))⟩

theorem roles_ForbidsG : CtxOK Try.prog roles_ForbidsX := ⟨fits, gam_ok (AllM.all (l := [(22, roles_ValidM), (53, roles_namesM), (46, roles_findM), (58, roles_pastM), (59, roles_brokenM)]) ⟨roles_Valid_ok, roles_names_ok, roles_find_ok, roles_past_ok, roles_broken_ok, trivial⟩)⟩

noncomputable abbrev roles_ForbidsM : Mdl := (mdlOf (.cons (.d false Org.ty) (.cons (.d false .str) (.cons (.d false .str) (.cons (.d false (.slice Task.ty)) .nil)))) [] [] 2 roles_ForbidsR_ (fun (b : (Int × Int)) => ((b.1, b.2, ()), (()))) (fun (a : ((Org × ByteArray × ByteArray × (List Task) × Unit) × (Unit))) => roles_Forbids a.1.1 a.1.2.1 a.1.2.2.1 a.1.2.2.2.1))

theorem roles_Forbids_ok : MdlOK Try.prog 18 roles_ForbidsM :=
  fn_ok (c := (bodyOf Try.f18)) Try.func18 (by rfl) (by kernel_rfl) (X := roles_ForbidsX) (by kernel_rfl) (rs := [.tmp 8, .tmp 9]) (by kernel_rfl) (sh := roles_ForbidsR_) (un := (fun (x : ((Int × Int × Unit) × (Unit))) => (x.1.1, x.1.2.1))) (mk := (fun (b : (Int × Int)) => ((b.1, b.2, ()), (())))) (fun _ => rfl) rfl (roles_ForbidsG) mixed (ann := .z) (AllS.all (l := []) (by kernel_rfl) trivial) (Nat.le_of_ble_eq_true (by kernel_rfl)) (by kernel_rfl) (fun a => by kernel_rfl)

/-! casebook/roles.given -/

def roles_givenR_ : Shp := ⟨[(0, .d true (.int .i64))], []⟩

noncomputable abbrev roles_givenX : Ctx (Int) := ⟨42, tt, false, [], gam [(22, roles_ValidM), (53, roles_namesM), (54, roles_instantM), (58, roles_pastM)], lam [], resU 42 tt [] [.tmp 10] roles_givenR_ (fun (x : ((Int × Unit) × (Unit))) => x.1.1)⟩

theorem roles_givenG : CtxOK Try.prog roles_givenX := ⟨fits, gam_ok (AllM.all (l := [(22, roles_ValidM), (53, roles_namesM), (54, roles_instantM), (58, roles_pastM)]) ⟨roles_Valid_ok, roles_names_ok, roles_instant_ok, roles_past_ok, trivial⟩)⟩

noncomputable abbrev roles_givenM : Mdl := (mdlOf (.cons (.d false Org.ty) (.cons (.d false (.slice .str)) (.cons (.d false (.slice .str)) (.cons (.d false (.int .i64)) (.cons (.d false (.slice Task.ty)) .nil))))) [] [] 1 roles_givenR_ (fun (b : Int) => ((b, ()), (()))) (fun (a : ((Org × (List ByteArray) × (List ByteArray) × Int × (List Task) × Unit) × (Unit))) => roles_given a.1.1 a.1.2.1 a.1.2.2.1 a.1.2.2.2.1 a.1.2.2.2.2.1))

theorem roles_given_ok : MdlOK Try.prog 45 roles_givenM :=
  fn_ok (c := (bodyOf Try.f45)) Try.func45 (by rfl) (by kernel_rfl) (X := roles_givenX) (by kernel_rfl) (rs := [.tmp 10]) (by kernel_rfl) (sh := roles_givenR_) (un := (fun (x : ((Int × Unit) × (Unit))) => x.1.1)) (mk := (fun (b : Int) => ((b, ()), (())))) (fun _ => rfl) rfl (roles_givenG) mixed (ann := .z) (AllS.all (l := []) (by kernel_rfl) trivial) (Nat.le_of_ble_eq_true (by kernel_rfl)) (by kernel_rfl) (fun a => by kernel_rfl)

/-! casebook/roles.may -/

def roles_mayR_ : Shp := ⟨[(0, .d true .bool)], []⟩

noncomputable abbrev roles_mayX : Ctx (Bool) := ⟨26, tt, false, [], gam [(55, roles_hasM), (59, roles_brokenM)], lam [], resU 26 tt [] [.tmp 12] roles_mayR_ (fun (x : ((Bool × Unit) × (Unit))) => x.1.1)⟩

theorem roles_mayG : CtxOK Try.prog roles_mayX := ⟨fits, gam_ok (AllM.all (l := [(55, roles_hasM), (59, roles_brokenM)]) ⟨roles_has_ok, roles_broken_ok, trivial⟩)⟩

noncomputable abbrev roles_mayM : Mdl := (mdlOf (.cons (.d true Org.ty) (.cons (.d false .str) (.cons (.d false .str) (.cons (.d false .str) (.cons (.d false (.int .i64)) (.cons (.d false (.slice Task.ty)) .nil)))))) [] [] 1 roles_mayR_ (fun (b : Bool) => ((b, ()), (()))) (fun (a : ((Org × ByteArray × ByteArray × ByteArray × Int × (List Task) × Unit) × (Unit))) => roles_may a.1.1 a.1.2.1 a.1.2.2.1 a.1.2.2.2.1 a.1.2.2.2.2.1 a.1.2.2.2.2.2.1))

theorem roles_may_ok : MdlOK Try.prog 48 roles_mayM :=
  fn_ok (c := (bodyOf Try.f48)) Try.func48 (by rfl) (by kernel_rfl) (X := roles_mayX) (by kernel_rfl) (rs := [.tmp 12]) (by kernel_rfl) (sh := roles_mayR_) (un := (fun (x : ((Bool × Unit) × (Unit))) => x.1.1)) (mk := (fun (b : Bool) => ((b, ()), (())))) (fun _ => rfl) rfl (roles_mayG) mixed (ann := .z) (AllS.all (l := []) (by kernel_rfl) trivial) (Nat.le_of_ble_eq_true (by kernel_rfl)) (by kernel_rfl) (fun a => by kernel_rfl)

/-! casebook/roles.able -/

def roles_ableR_ : Shp := ⟨[(0, .own 0)], [.arr 103 (.fz true) [0] (.int .u64)]⟩

noncomputable abbrev roles_ableX : Ctx ((List Int)) := ⟨56, tt, false, [], gam [(48, roles_mayM)], lam [loopSumm ((List Int)) 56 [] roles_ableL0I (C := ((List ByteArray) × (List ByteArray) × Int × (List Task) × Int × Int × Int × (List Person) × Int × (List Person) × (List Delegation) × (List Duty))) (S := (Int × (List Int))) (fun (x : (((List ByteArray) × (List ByteArray) × Int × (List Task) × Unit × Unit × Int × Int × Int × (List Person) × Int × Int × Unit) × (((List Person) × (List Delegation) × (List Duty) × Unit) × (List Int) × Unit))) => ((x.1.1, x.1.2.1, x.1.2.2.1, x.1.2.2.2.1, x.1.2.2.2.2.2.2.1, x.1.2.2.2.2.2.2.2.1, x.1.2.2.2.2.2.2.2.2.1, x.1.2.2.2.2.2.2.2.2.2.1, x.1.2.2.2.2.2.2.2.2.2.2.1, x.2.1.1, x.2.1.2.1, x.2.1.2.2.1), (x.1.2.2.2.2.2.2.2.2.2.2.2.1, x.2.2.1))) roles_ableL0E (CE := ((List ByteArray) × (List ByteArray) × Int × (List Task) × Int × Int × (List Person) × (List Delegation) × (List Duty))) (E := (List Int)) (fun (c : ((List ByteArray) × (List ByteArray) × Int × (List Task) × Int × Int × (List Person) × (List Delegation) × (List Duty))) (e : (List Int)) => ((c.1, c.2.1, c.2.2.1, c.2.2.2.1, (), (), c.2.2.2.2.1, c.2.2.2.2.2.1, ()), ((c.2.2.2.2.2.2.1, c.2.2.2.2.2.2.2.1, c.2.2.2.2.2.2.2.2, ()), e, ()))) (fun (c : ((List ByteArray) × (List ByteArray) × Int × (List Task) × Int × Int × Int × (List Person) × Int × (List Person) × (List Delegation) × (List Duty))) => (c.1, c.2.1, c.2.2.1, c.2.2.2.1, c.2.2.2.2.2.1, c.2.2.2.2.2.2.1, c.2.2.2.2.2.2.2.2.2.1, c.2.2.2.2.2.2.2.2.2.2.1, c.2.2.2.2.2.2.2.2.2.2.2)) (fun {R} c a nx dn rt => roles_ableL0K c.1 c.2.1 c.2.2.1 c.2.2.2.1 c.2.2.2.2.1 c.2.2.2.2.2.1 c.2.2.2.2.2.2.1 c.2.2.2.2.2.2.2.1 c.2.2.2.2.2.2.2.2.1 c.2.2.2.2.2.2.2.2.2.1 c.2.2.2.2.2.2.2.2.2.2.1 c.2.2.2.2.2.2.2.2.2.2.2 a.1 a.2 nx dn rt),
  loopSumm ((List Int)) 56 [] roles_ableL1I (C := ((List ByteArray) × (List ByteArray) × Int × (List Task) × Int × (List Person) × (List Delegation) × (List Duty))) (S := (Int × (List Int))) (fun (x : (((List ByteArray) × (List ByteArray) × Int × (List Task) × Unit × Unit × Int × Int × Unit) × (((List Person) × (List Delegation) × (List Duty) × Unit) × (List Int) × Unit))) => ((x.1.1, x.1.2.1, x.1.2.2.1, x.1.2.2.2.1, x.1.2.2.2.2.2.2.1, x.2.1.1, x.2.1.2.1, x.2.1.2.2.1), (x.1.2.2.2.2.2.2.2.1, x.2.2.1))) roles_ableL1E (CE := Unit) (E := (List Int)) (fun (c : Unit) (e : (List Int)) => (((), ()), (e, ()))) (fun (c : ((List ByteArray) × (List ByteArray) × Int × (List Task) × Int × (List Person) × (List Delegation) × (List Duty))) => ()) (fun {R} c a nx dn rt => roles_ableL1K c.1 c.2.1 c.2.2.1 c.2.2.2.1 c.2.2.2.2.1 c.2.2.2.2.2.1 c.2.2.2.2.2.2.1 c.2.2.2.2.2.2.2 a.1 a.2 nx dn rt)], resU 56 tt [] [.tmp 10] roles_ableR_ (fun (x : ((Unit × Unit) × ((List Int) × Unit))) => x.2.1)⟩

theorem roles_ableG : CtxOK Try.prog roles_ableX := ⟨fits, gam_ok (AllM.all (l := [(48, roles_mayM)]) ⟨roles_may_ok, trivial⟩)⟩

theorem roles_ableS0 : SummOK Try.prog roles_ableX 0 (.block 2 (.loop (subC (bodyOf Try.f70) [true, true, false, true, false, false, true, true, false, false, true, true, false, false]))) :=
  loop_ok (shI := roles_ableL0I) (shE := roles_ableL0E) (C := ((List ByteArray) × (List ByteArray) × Int × (List Task) × Int × Int × Int × (List Person) × Int × (List Person) × (List Delegation) × (List Duty))) (S := (Int × (List Int))) (CE := ((List ByteArray) × (List ByteArray) × Int × (List Task) × Int × Int × (List Person) × (List Delegation) × (List Duty))) (E := (List Int)) (roles_ableG) mixed (ann := (.two .z (.two .z (.two (.one (.two .z (.two (.d [0, 0, 2, 0, 0, 24, 56, 0, 0, 384, 896, 0, 0, 8191] [] []) (.two (.d [0, 0, 3, 7, 0, 16, 63, 127, 255] [8] []) .z)))) .z)))) (AllS.all (l := []) (by kernel_rfl) trivial) (mk := (fun (c : ((List ByteArray) × (List ByteArray) × Int × (List Task) × Int × Int × Int × (List Person) × Int × (List Person) × (List Delegation) × (List Duty))) (a : (Int × (List Int))) => ((c.1, c.2.1, c.2.2.1, c.2.2.2.1, (), (), c.2.2.2.2.1, c.2.2.2.2.2.1, c.2.2.2.2.2.2.1, c.2.2.2.2.2.2.2.1, c.2.2.2.2.2.2.2.2.1, a.1, ()), ((c.2.2.2.2.2.2.2.2.2.1, c.2.2.2.2.2.2.2.2.2.2.1, c.2.2.2.2.2.2.2.2.2.2.2, ()), a.2, ())))) (unE := (fun (y : (((List ByteArray) × (List ByteArray) × Int × (List Task) × Unit × Unit × Int × Int × Unit) × (((List Person) × (List Delegation) × (List Duty) × Unit) × (List Int) × Unit))) => ((y.1.1, y.1.2.1, y.1.2.2.1, y.1.2.2.2.1, y.1.2.2.2.2.2.2.1, y.1.2.2.2.2.2.2.2.1, y.2.1.1, y.2.1.2.1, y.2.1.2.2.1), y.2.2.1))) rfl (fun _ => rfl) (fun _ => rfl) (fun R K D T c a => by kernel_rfl)

theorem roles_ableS1 : SummOK Try.prog roles_ableX 1 (.block 0 (.loop (subC (bodyOf Try.f70) [true, true, false, true, false, false]))) :=
  loop_ok (shI := roles_ableL1I) (shE := roles_ableL1E) (C := ((List ByteArray) × (List ByteArray) × Int × (List Task) × Int × (List Person) × (List Delegation) × (List Duty))) (S := (Int × (List Int))) (CE := Unit) (E := (List Int)) (roles_ableG) mixed (ann := (.two .z (.two .z (.two (.one (.two .z (.two .z (.s 0)))) .z)))) (AllS.all (l := [(0, .block 2 (.loop (subC (bodyOf Try.f70) [true, true, false, true, false, false, true, true, false, false, true, true, false, false])))]) (by kernel_rfl) ⟨roles_ableS0, trivial⟩) (mk := (fun (c : ((List ByteArray) × (List ByteArray) × Int × (List Task) × Int × (List Person) × (List Delegation) × (List Duty))) (a : (Int × (List Int))) => ((c.1, c.2.1, c.2.2.1, c.2.2.2.1, (), (), c.2.2.2.2.1, a.1, ()), ((c.2.2.2.2.2.1, c.2.2.2.2.2.2.1, c.2.2.2.2.2.2.2, ()), a.2, ())))) (unE := (fun (y : ((Unit × Unit) × ((List Int) × Unit))) => ((), y.2.1))) rfl (fun _ => rfl) (fun _ => rfl) (fun R K D T c a => by kernel_rfl)

noncomputable abbrev roles_ableM : Mdl := (mdlOf (.cons (.d true Org.ty) (.cons (.d false (.slice .str)) (.cons (.d false (.slice .str)) (.cons (.d false (.int .i64)) (.cons (.d false (.slice Task.ty)) .nil))))) [] [] 1 roles_ableR_ (fun (b : (List Int)) => (((), ()), (b, ()))) (fun (a : ((Org × (List ByteArray) × (List ByteArray) × Int × (List Task) × Unit) × (Unit))) => roles_able a.1.1 a.1.2.1 a.1.2.2.1 a.1.2.2.2.1 a.1.2.2.2.2.1))

theorem roles_able_ok : MdlOK Try.prog 70 roles_ableM :=
  fn_ok (c := (bodyOf Try.f70)) Try.func70 (by rfl) (by kernel_rfl) (X := roles_ableX) (by kernel_rfl) (rs := [.tmp 10]) (by kernel_rfl) (sh := roles_ableR_) (un := (fun (x : ((Unit × Unit) × ((List Int) × Unit))) => x.2.1)) (mk := (fun (b : (List Int)) => (((), ()), (b, ())))) (fun _ => rfl) rfl (roles_ableG) mixed (ann := (.two .z (.two .z (.two (.two .z (.s 1)) .z)))) (AllS.all (l := [(1, .block 0 (.loop (subC (bodyOf Try.f70) [true, true, false, true, false, false])))]) (by kernel_rfl) ⟨roles_ableS1, trivial⟩) (Nat.le_of_ble_eq_true (by kernel_rfl)) (by kernel_rfl) (fun a => by kernel_rfl)

/-! math/bits.OnesCount64 -/

def bits_OnesCount64R_ : Shp := ⟨[(0, .d true (.int .i64))], []⟩

noncomputable abbrev bits_OnesCount64X : Ctx (Int) := ⟨35, tt, false, [], gam [], lam [], resU 35 tt [] [.tmp 2] bits_OnesCount64R_ (fun (x : ((Int × Unit) × (Unit))) => x.1.1)⟩

theorem bits_OnesCount64G : CtxOK Try.prog bits_OnesCount64X := ⟨fits, gam_ok (AllM.all (l := []) trivial)⟩

noncomputable abbrev bits_OnesCount64M : Mdl := (mdlOf (.cons (.d false (.int .u64)) .nil) [] [] 1 bits_OnesCount64R_ (fun (b : Int) => ((b, ()), (()))) (fun (a : ((Int × Unit) × (Unit))) => bits_OnesCount64 a.1.1))

theorem bits_OnesCount64_ok : MdlOK Try.prog 75 bits_OnesCount64M :=
  fn_ok (c := (bodyOf Try.f75)) Try.func75 (by rfl) (by kernel_rfl) (X := bits_OnesCount64X) (by kernel_rfl) (rs := [.tmp 2]) (by kernel_rfl) (sh := bits_OnesCount64R_) (un := (fun (x : ((Int × Unit) × (Unit))) => x.1.1)) (mk := (fun (b : Int) => ((b, ()), (())))) (fun _ => rfl) rfl (bits_OnesCount64G) mixed (ann := .z) (AllS.all (l := []) (by kernel_rfl) trivial) (Nat.le_of_ble_eq_true (by kernel_rfl)) (by kernel_rfl) (fun a => by kernel_rfl)

/-! cmp.isNaN[int] -/

def cmp_isNaN_intR_ : Shp := ⟨[(0, .d true .bool)], []⟩

noncomputable abbrev cmp_isNaN_intX : Ctx (Bool) := ⟨6, tt, false, [], gam [], lam [], resU 6 tt [] [.tmp 2] cmp_isNaN_intR_ (fun (x : ((Bool × Unit) × (Unit))) => x.1.1)⟩

theorem cmp_isNaN_intG : CtxOK Try.prog cmp_isNaN_intX := ⟨fits, gam_ok (AllM.all (l := []) trivial)⟩

noncomputable abbrev cmp_isNaN_intM : Mdl := (mdlOf (.cons (.d false (.int .i64)) .nil) [] [] 1 cmp_isNaN_intR_ (fun (b : Bool) => ((b, ()), (()))) (fun (a : ((Int × Unit) × (Unit))) => cmp_isNaN_int a.1.1))

theorem cmp_isNaN_int_ok : MdlOK Try.prog 100 cmp_isNaN_intM :=
  fn_ok (c := (bodyOf Try.f100)) Try.func100 (by rfl) (by kernel_rfl) (X := cmp_isNaN_intX) (by kernel_rfl) (rs := [.tmp 2]) (by kernel_rfl) (sh := cmp_isNaN_intR_) (un := (fun (x : ((Bool × Unit) × (Unit))) => x.1.1)) (mk := (fun (b : Bool) => ((b, ()), (())))) (fun _ => rfl) rfl (cmp_isNaN_intG) mixed (ann := .z) (AllS.all (l := []) (by kernel_rfl) trivial) (Nat.le_of_ble_eq_true (by kernel_rfl)) (by kernel_rfl) (fun a => by kernel_rfl)

/-! cmp.Compare[int] -/

def cmp_Compare_intR_ : Shp := ⟨[(0, .d true (.int .i64))], []⟩

noncomputable abbrev cmp_Compare_intX : Ctx (Int) := ⟨20, tt, false, [], gam [(100, cmp_isNaN_intM)], lam [], resU 20 tt [] [.tmp 4] cmp_Compare_intR_ (fun (x : ((Int × Unit) × (Unit))) => x.1.1)⟩

theorem cmp_Compare_intG : CtxOK Try.prog cmp_Compare_intX := ⟨fits, gam_ok (AllM.all (l := [(100, cmp_isNaN_intM)]) ⟨cmp_isNaN_int_ok, trivial⟩)⟩

noncomputable abbrev cmp_Compare_intM : Mdl := (mdlOf (.cons (.d false (.int .i64)) (.cons (.d false (.int .i64)) .nil)) [] [] 1 cmp_Compare_intR_ (fun (b : Int) => ((b, ()), (()))) (fun (a : ((Int × Int × Unit) × (Unit))) => cmp_Compare_int a.1.1 a.1.2.1))

theorem cmp_Compare_int_ok : MdlOK Try.prog 99 cmp_Compare_intM :=
  fn_ok (c := (bodyOf Try.f99)) Try.func99 (by rfl) (by kernel_rfl) (X := cmp_Compare_intX) (by kernel_rfl) (rs := [.tmp 4]) (by kernel_rfl) (sh := cmp_Compare_intR_) (un := (fun (x : ((Int × Unit) × (Unit))) => x.1.1)) (mk := (fun (b : Int) => ((b, ()), (())))) (fun _ => rfl) rfl (cmp_Compare_intG) mixed (ann := .z) (AllS.all (l := []) (by kernel_rfl) trivial) (Nat.le_of_ble_eq_true (by kernel_rfl)) (by kernel_rfl) (fun a => by kernel_rfl)

/-! slices.Compare[[]int,int] -/

def slices_Compare_int_intR_ : Shp := ⟨[(0, .d true (.int .i64))], []⟩

noncomputable abbrev slices_Compare_int_intX : Ctx (Int) := ⟨36, tt, false, [], gam [(99, cmp_Compare_intM)], lam [loopSumm (Int) 36 [] slices_Compare_int_intL0I (C := ((List Int) × (List Int) × (List Int) × Int)) (S := Int) (fun (x : (((List Int) × (List Int) × (List Int) × Int × Int × Unit) × (Unit))) => ((x.1.1, x.1.2.1, x.1.2.2.1, x.1.2.2.2.1), x.1.2.2.2.2.1)) slices_Compare_int_intL0E (CE := ((List Int) × (List Int))) (E := Unit) (fun (c : ((List Int) × (List Int))) (e : Unit) => ((c.1, c.2, ()), (()))) (fun (c : ((List Int) × (List Int) × (List Int) × Int)) => (c.1, c.2.1)) (fun {R} c a nx dn rt => slices_Compare_int_intL0K c.1 c.2.1 c.2.2.1 c.2.2.2 a nx dn rt)], resU 36 tt [] [.tmp 4] slices_Compare_int_intR_ (fun (x : ((Int × Unit) × (Unit))) => x.1.1)⟩

theorem slices_Compare_int_intG : CtxOK Try.prog slices_Compare_int_intX := ⟨fits, gam_ok (AllM.all (l := [(99, cmp_Compare_intM)]) ⟨cmp_Compare_int_ok, trivial⟩)⟩

theorem slices_Compare_int_intS0 : SummOK Try.prog slices_Compare_int_intX 0 (.block 0 (.loop (subC (bodyOf Try.f76) [true, false, true, false, false]))) :=
  loop_ok (shI := slices_Compare_int_intL0I) (shE := slices_Compare_int_intL0E) (C := ((List Int) × (List Int) × (List Int) × Int)) (S := Int) (CE := ((List Int) × (List Int))) (E := Unit) (slices_Compare_int_intG) mixed (ann := .z) (AllS.all (l := []) (by kernel_rfl) trivial) (mk := (fun (c : ((List Int) × (List Int) × (List Int) × Int)) (a : Int) => ((c.1, c.2.1, c.2.2.1, c.2.2.2, a, ()), (())))) (unE := (fun (y : (((List Int) × (List Int) × Unit) × (Unit))) => ((y.1.1, y.1.2.1), ()))) rfl (fun _ => rfl) (fun _ => rfl) (fun R K D T c a => by kernel_rfl)

noncomputable abbrev slices_Compare_int_intM : Mdl := (mdlOf (.cons (.d false (.slice (.int .i64))) (.cons (.d false (.slice (.int .i64))) .nil)) [] [] 1 slices_Compare_int_intR_ (fun (b : Int) => ((b, ()), (()))) (fun (a : (((List Int) × (List Int) × Unit) × (Unit))) => slices_Compare_int_int a.1.1 a.1.2.1))

theorem slices_Compare_int_int_ok : MdlOK Try.prog 76 slices_Compare_int_intM :=
  fn_ok (c := (bodyOf Try.f76)) Try.func76 (by rfl) (by kernel_rfl) (X := slices_Compare_int_intX) (by kernel_rfl) (rs := [.tmp 4]) (by kernel_rfl) (sh := slices_Compare_int_intR_) (un := (fun (x : ((Int × Unit) × (Unit))) => x.1.1)) (mk := (fun (b : Int) => ((b, ()), (())))) (fun _ => rfl) rfl (slices_Compare_int_intG) mixed (ann := (.two .z (.two (.two .z (.s 0)) .z))) (AllS.all (l := [(0, .block 0 (.loop (subC (bodyOf Try.f76) [true, false, true, false, false])))]) (by kernel_rfl) ⟨slices_Compare_int_intS0, trivial⟩) (Nat.le_of_ble_eq_true (by kernel_rfl)) (by kernel_rfl) (fun a => by kernel_rfl)

/-! casebook/roles.Blocking -/

def roles_BlockingR_ : Shp := ⟨[(0, .nl (.own 0)), (1, .d true (.int .i64))], [.arr 3 (.fz true) [0] (.int .i64)]⟩

noncomputable abbrev roles_BlockingX : Ctx ((Int × (List Int))) := ⟨93, tt, false, [], gam [(45, roles_givenM), (70, roles_ableM), (75, bits_OnesCount64M), (76, slices_Compare_int_intM)], lam [loopSumm ((Int × (List Int))) 93 [] roles_BlockingL0I (C := ((List Int) × Int × Int × (List Int))) (S := (Int × Int × (List Int))) (fun (x : (((List Int) × Unit × Int × Unit × Int × Int × Int × Unit) × ((List Int) × (List Int) × Unit))) => ((x.1.1, x.1.2.2.1, x.1.2.2.2.2.2.1, x.2.1), (x.1.2.2.2.2.1, x.1.2.2.2.2.2.2.1, x.2.2.1))) roles_BlockingL0E (CE := ((List Int) × Int × (List Int))) (E := (Int × (List Int))) (fun (c : ((List Int) × Int × (List Int))) (e : (Int × (List Int))) => ((c.1, (), c.2.1, (), e.1, ()), (c.2.2, e.2, ()))) (fun (c : ((List Int) × Int × Int × (List Int))) => (c.1, c.2.1, c.2.2.2)) (fun {R} c a nx dn rt => roles_BlockingL0K c.1 c.2.1 c.2.2.1 c.2.2.2 a.1 a.2.1 a.2.2 nx dn rt),
  loopSumm ((Int × (List Int))) 93 [] roles_BlockingL1I (C := (List Int)) (S := (Int × (List Int))) (fun (x : (((List Int) × Unit × Int × Unit) × ((List Int) × Unit))) => (x.1.1, (x.1.2.2.1, x.2.1))) roles_BlockingL1E (CE := Unit) (E := (List Int)) (fun (c : Unit) (e : (List Int)) => (((), ()), (e, ()))) (fun (c : (List Int)) => ()) (fun {R} c a nx dn rt => roles_BlockingL1K c a.1 a.2 nx dn rt)], resU 93 tt [] [.tmp 10, .tmp 11] roles_BlockingR_ (fun (x : ((Unit × Int × Unit) × ((List Int) × Unit))) => (x.1.2.1, x.2.1))⟩

theorem roles_BlockingG : CtxOK Try.prog roles_BlockingX := ⟨fits, gam_ok (AllM.all (l := [(45, roles_givenM), (70, roles_ableM), (75, bits_OnesCount64M), (76, slices_Compare_int_intM)]) ⟨roles_given_ok, roles_able_ok, bits_OnesCount64_ok, slices_Compare_int_int_ok, trivial⟩)⟩

theorem roles_BlockingS0 : SummOK Try.prog roles_BlockingX 0 (.block 2 (.loop (subC (bodyOf Try.f30) [true, true, true, true, false, true, false, false, true, false, false, true, true, false, true, false, false]))) :=
  loop_ok (shI := roles_BlockingL0I) (shE := roles_BlockingL0E) (C := ((List Int) × Int × Int × (List Int))) (S := (Int × Int × (List Int))) (CE := ((List Int) × Int × (List Int))) (E := (Int × (List Int))) (roles_BlockingG) mixed (ann := .z) (AllS.all (l := []) (by kernel_rfl) trivial) (mk := (fun (c : ((List Int) × Int × Int × (List Int))) (a : (Int × Int × (List Int))) => ((c.1, (), c.2.1, (), a.1, c.2.2.1, a.2.1, ()), (c.2.2.2, a.2.2, ())))) (unE := (fun (y : (((List Int) × Unit × Int × Unit × Int × Unit) × ((List Int) × (List Int) × Unit))) => ((y.1.1, y.1.2.2.1, y.2.1), (y.1.2.2.2.2.1, y.2.2.1)))) rfl (fun _ => rfl) (fun _ => rfl) (fun R K D T c a => by kernel_rfl)

theorem roles_BlockingS1 : SummOK Try.prog roles_BlockingX 1 (.block 0 (.loop (subC (bodyOf Try.f30) [true, true, true, true, false, true, false, false]))) :=
  loop_ok (shI := roles_BlockingL1I) (shE := roles_BlockingL1E) (C := (List Int)) (S := (Int × (List Int))) (CE := Unit) (E := (List Int)) (roles_BlockingG) mixed (ann := (.two .z (.two (.one (.two .z (.two .z (.two (.two .z (.s 0)) .z)))) .z))) (AllS.all (l := [(0, .block 2 (.loop (subC (bodyOf Try.f30) [true, true, true, true, false, true, false, false, true, false, false, true, true, false, true, false, false])))]) (by kernel_rfl) ⟨roles_BlockingS0, trivial⟩) (mk := (fun (c : (List Int)) (a : (Int × (List Int))) => ((c, (), a.1, ()), (a.2, ())))) (unE := (fun (y : ((Unit × Unit) × ((List Int) × Unit))) => ((), y.2.1))) rfl (fun _ => rfl) (fun _ => rfl) (fun R K D T c a => by kernel_rfl)

noncomputable abbrev roles_BlockingM : Mdl := (mdlOf (.cons (.d true Org.ty) (.cons (.d false (.slice .str)) (.cons (.d false (.slice .str)) (.cons (.d false (.int .i64)) (.cons (.d false (.slice Task.ty)) .nil))))) [] [] 2 roles_BlockingR_ (fun (b : (Int × (List Int))) => (((), b.1, ()), (b.2, ()))) (fun (a : ((Org × (List ByteArray) × (List ByteArray) × Int × (List Task) × Unit) × (Unit))) => roles_Blocking a.1.1 a.1.2.1 a.1.2.2.1 a.1.2.2.2.1 a.1.2.2.2.2.1))

theorem roles_Blocking_ok : MdlOK Try.prog 30 roles_BlockingM :=
  fn_ok (c := (bodyOf Try.f30)) Try.func30 (by rfl) (by kernel_rfl) (X := roles_BlockingX) (by kernel_rfl) (rs := [.tmp 10, .tmp 11]) (by kernel_rfl) (sh := roles_BlockingR_) (un := (fun (x : ((Unit × Int × Unit) × ((List Int) × Unit))) => (x.1.2.1, x.2.1))) (mk := (fun (b : (Int × (List Int))) => (((), b.1, ()), (b.2, ())))) (fun _ => rfl) rfl (roles_BlockingG) mixed (ann := (.two .z (.two .z (.two .z (.two .z (.two (.two .z (.s 1)) .z)))))) (AllS.all (l := [(1, .block 0 (.loop (subC (bodyOf Try.f30) [true, true, true, true, false, true, false, false])))]) (by kernel_rfl) ⟨roles_BlockingS1, trivial⟩) (Nat.le_of_ble_eq_true (by kernel_rfl)) (by kernel_rfl) (fun a => by kernel_rfl)

/-! slices.Equal[[]int,int] -/

def slices_Equal_int_intR_ : Shp := ⟨[(0, .d true .bool)], []⟩

noncomputable abbrev slices_Equal_int_intX : Ctx (Bool) := ⟨26, tt, false, [], gam [], lam [loopSumm (Bool) 26 [] slices_Equal_int_intL0I (C := ((List Int) × (List Int) × Int)) (S := Int) (fun (x : (((List Int) × (List Int) × Int × Int × Unit) × (Unit))) => ((x.1.1, x.1.2.1, x.1.2.2.1), x.1.2.2.2.1)) slices_Equal_int_intL0E (CE := Unit) (E := Unit) (fun (c : Unit) (e : Unit) => ((()), (()))) (fun (c : ((List Int) × (List Int) × Int)) => ()) (fun {R} c a nx dn rt => slices_Equal_int_intL0K c.1 c.2.1 c.2.2 a nx dn rt)], resU 26 tt [] [.tmp 4] slices_Equal_int_intR_ (fun (x : ((Bool × Unit) × (Unit))) => x.1.1)⟩

theorem slices_Equal_int_intG : CtxOK Try.prog slices_Equal_int_intX := ⟨fits, gam_ok (AllM.all (l := []) trivial)⟩

theorem slices_Equal_int_intS0 : SummOK Try.prog slices_Equal_int_intX 0 (.block 0 (.loop (subC (bodyOf Try.f33) [true, true, false, true, false, false]))) :=
  loop_ok (shI := slices_Equal_int_intL0I) (shE := slices_Equal_int_intL0E) (C := ((List Int) × (List Int) × Int)) (S := Int) (CE := Unit) (E := Unit) (slices_Equal_int_intG) mixed (ann := (.two .z (.two .z (.two (.one (.two .z (.two (.d [0, 0, 3, 7, 0, 0, 48, 112, 255] [] []) .z))) .z)))) (AllS.all (l := []) (by kernel_rfl) trivial) (mk := (fun (c : ((List Int) × (List Int) × Int)) (a : Int) => ((c.1, c.2.1, c.2.2, a, ()), (())))) (unE := (fun (y : ((Unit) × (Unit))) => ((), ()))) rfl (fun _ => rfl) (fun _ => rfl) (fun R K D T c a => by kernel_rfl)

noncomputable abbrev slices_Equal_int_intM : Mdl := (mdlOf (.cons (.d false (.slice (.int .i64))) (.cons (.d false (.slice (.int .i64))) .nil)) [] [] 1 slices_Equal_int_intR_ (fun (b : Bool) => ((b, ()), (()))) (fun (a : (((List Int) × (List Int) × Unit) × (Unit))) => slices_Equal_int_int a.1.1 a.1.2.1))

theorem slices_Equal_int_int_ok : MdlOK Try.prog 33 slices_Equal_int_intM :=
  fn_ok (c := (bodyOf Try.f33)) Try.func33 (by rfl) (by kernel_rfl) (X := slices_Equal_int_intX) (by kernel_rfl) (rs := [.tmp 4]) (by kernel_rfl) (sh := slices_Equal_int_intR_) (un := (fun (x : ((Bool × Unit) × (Unit))) => x.1.1)) (mk := (fun (b : Bool) => ((b, ()), (())))) (fun _ => rfl) rfl (slices_Equal_int_intG) mixed (ann := (.two .z (.two .z (.two (.two .z (.s 0)) .z)))) (AllS.all (l := [(0, .block 0 (.loop (subC (bodyOf Try.f33) [true, true, false, true, false, false])))]) (by kernel_rfl) ⟨slices_Equal_int_intS0, trivial⟩) (Nat.le_of_ble_eq_true (by kernel_rfl)) (by kernel_rfl) (fun a => by kernel_rfl)

/-! casebook/casebooklaw46.awake -/

def law46_awakeR_ : Shp := ⟨[(0, .d true .bool)], []⟩

noncomputable abbrev law46_awakeX : Ctx (Bool) := ⟨63, tt, false, [], gam [(34, law46_exampleM), (16, roles_HasM), (18, roles_ForbidsM), (30, roles_BlockingM), (33, slices_Equal_int_intM)], lam [], resU 63 tt [] [.tmp 0] law46_awakeR_ (fun (x : ((Bool × Unit) × (Unit))) => x.1.1)⟩

theorem law46_awakeG : CtxOK Try.prog law46_awakeX := ⟨fits, gam_ok (AllM.all (l := [(34, law46_exampleM), (16, roles_HasM), (18, roles_ForbidsM), (30, roles_BlockingM), (33, slices_Equal_int_intM)]) ⟨law46_example_ok, roles_Has_ok, roles_Forbids_ok, roles_Blocking_ok, slices_Equal_int_int_ok, trivial⟩)⟩

noncomputable abbrev law46_awakeM : Mdl := (mdlOf .nil [] [] 1 law46_awakeR_ (fun (b : Bool) => ((b, ()), (()))) (fun (a : ((Unit) × (Unit))) => law46_awake ))

theorem law46_awake_ok : MdlOK Try.prog 9 law46_awakeM :=
  fn_ok (c := (bodyOf Try.f9)) Try.func9 (by rfl) (by kernel_rfl) (X := law46_awakeX) (by kernel_rfl) (rs := [.tmp 0]) (by kernel_rfl) (sh := law46_awakeR_) (un := (fun (x : ((Bool × Unit) × (Unit))) => x.1.1)) (mk := (fun (b : Bool) => ((b, ()), (())))) (fun _ => rfl) rfl (law46_awakeG) mixed (ann := .z) (AllS.all (l := []) (by kernel_rfl) trivial) (Nat.le_of_ble_eq_true (by kernel_rfl)) (by kernel_rfl) (fun a => by kernel_rfl)

/-! casebook/casebooklaw46.words$1 -/

def law46_words_1R_ : Shp := ⟨[(0, .d true .bool)], []⟩

noncomputable abbrev law46_words_1X : Ctx (Bool) := ⟨6, tt, false, [], gam [], lam [], resU 6 tt [] [.tmp 2] law46_words_1R_ (fun (x : ((Bool × Unit) × (Unit))) => x.1.1)⟩

theorem law46_words_1G : CtxOK Try.prog law46_words_1X := ⟨fits, gam_ok (AllM.all (l := []) trivial)⟩

noncomputable abbrev law46_words_1M : Mdl := (mdlOf (.cons (.d false .str) .nil) [] [] 1 law46_words_1R_ (fun (b : Bool) => ((b, ()), (()))) (fun (a : ((ByteArray × Unit) × (Unit))) => law46_words_1 a.1.1))

theorem law46_words_1_ok : MdlOK Try.prog 42 law46_words_1M :=
  fn_ok (c := (bodyOf Try.f42)) Try.func42 (by rfl) (by kernel_rfl) (X := law46_words_1X) (by kernel_rfl) (rs := [.tmp 2]) (by kernel_rfl) (sh := law46_words_1R_) (un := (fun (x : ((Bool × Unit) × (Unit))) => x.1.1)) (mk := (fun (b : Bool) => ((b, ()), (())))) (fun _ => rfl) rfl (law46_words_1G) mixed (ann := .z) (AllS.all (l := []) (by kernel_rfl) trivial) (Nat.le_of_ble_eq_true (by kernel_rfl)) (by kernel_rfl) (fun a => by kernel_rfl)

/-! slices.IndexFunc[[]string,string] -/

def slices_IndexFunc_string_string_42R_ : Shp := ⟨[(0, .d true (.int .i64))], []⟩

noncomputable abbrev slices_IndexFunc_string_string_42X : Ctx (Int) := ⟨19, tt, false, [], gam [(42, law46_words_1M)], lam [loopSumm (Int) 19 [] slices_IndexFunc_string_string_42L0I (C := ((List ByteArray) × Int)) (S := Int) (fun (x : (((List ByteArray) × (Unit) × Int × Int × Unit) × (Unit))) => ((x.1.1, x.1.2.2.1), x.1.2.2.2.1)) slices_IndexFunc_string_string_42L0E (CE := Unit) (E := Unit) (fun (c : Unit) (e : Unit) => ((()), (()))) (fun (c : ((List ByteArray) × Int)) => ()) (fun {R} c a nx dn rt => slices_IndexFunc_string_string_42L0K c.1 c.2 a nx dn rt)], resU 19 tt [] [.tmp 4] slices_IndexFunc_string_string_42R_ (fun (x : ((Int × Unit) × (Unit))) => x.1.1)⟩

theorem slices_IndexFunc_string_string_42G : CtxOK Try.prog slices_IndexFunc_string_string_42X := ⟨fits, gam_ok (AllM.all (l := [(42, law46_words_1M)]) ⟨law46_words_1_ok, trivial⟩)⟩

theorem slices_IndexFunc_string_string_42S0 : SummOK Try.prog slices_IndexFunc_string_string_42X 0 (.block 0 (.loop (subC (bodyOf Try.f80) [true, false, true, false, false]))) :=
  loop_ok (shI := slices_IndexFunc_string_string_42L0I) (shE := slices_IndexFunc_string_string_42L0E) (C := ((List ByteArray) × Int)) (S := Int) (CE := Unit) (E := Unit) (slices_IndexFunc_string_string_42G) mixed (ann := .z) (AllS.all (l := []) (by kernel_rfl) trivial) (mk := (fun (c : ((List ByteArray) × Int)) (a : Int) => ((c.1, (()), c.2, a, ()), (())))) (unE := (fun (y : ((Unit) × (Unit))) => ((), ()))) rfl (fun _ => rfl) (fun _ => rfl) (fun R K D T c a => by kernel_rfl)

noncomputable abbrev slices_IndexFunc_string_string_42M : Mdl := (mdlOf (.cons (.d false (.slice .str)) (.cons (.fn 42 .nil) .nil)) [] [] 1 slices_IndexFunc_string_string_42R_ (fun (b : Int) => ((b, ()), (()))) (fun (a : (((List ByteArray) × (Unit) × Unit) × (Unit))) => slices_IndexFunc_string_string_42 a.1.1))

theorem slices_IndexFunc_string_string_42_ok : MdlOK Try.prog 80 slices_IndexFunc_string_string_42M :=
  fn_ok (c := (bodyOf Try.f80)) Try.func80 (by rfl) (by kernel_rfl) (X := slices_IndexFunc_string_string_42X) (by kernel_rfl) (rs := [.tmp 4]) (by kernel_rfl) (sh := slices_IndexFunc_string_string_42R_) (un := (fun (x : ((Int × Unit) × (Unit))) => x.1.1)) (mk := (fun (b : Int) => ((b, ()), (())))) (fun _ => rfl) rfl (slices_IndexFunc_string_string_42G) mixed (ann := (.two .z (.two (.two .z (.s 0)) .z))) (AllS.all (l := [(0, .block 0 (.loop (subC (bodyOf Try.f80) [true, false, true, false, false])))]) (by kernel_rfl) ⟨slices_IndexFunc_string_string_42S0, trivial⟩) (Nat.le_of_ble_eq_true (by kernel_rfl)) (by kernel_rfl) (fun a => by kernel_rfl)

/-! slices.ContainsFunc[[]string,string] -/

def slices_ContainsFunc_string_string_42R_ : Shp := ⟨[(0, .d true .bool)], []⟩

noncomputable abbrev slices_ContainsFunc_string_string_42X : Ctx (Bool) := ⟨9, tt, false, [], gam [(80, slices_IndexFunc_string_string_42M)], lam [], resU 9 tt [] [.tmp 4] slices_ContainsFunc_string_string_42R_ (fun (x : ((Bool × Unit) × (Unit))) => x.1.1)⟩

theorem slices_ContainsFunc_string_string_42G : CtxOK Try.prog slices_ContainsFunc_string_string_42X := ⟨fits, gam_ok (AllM.all (l := [(80, slices_IndexFunc_string_string_42M)]) ⟨slices_IndexFunc_string_string_42_ok, trivial⟩)⟩

noncomputable abbrev slices_ContainsFunc_string_string_42M : Mdl := (mdlOf (.cons (.d false (.slice .str)) (.cons (.fn 42 .nil) .nil)) [] [] 1 slices_ContainsFunc_string_string_42R_ (fun (b : Bool) => ((b, ()), (()))) (fun (a : (((List ByteArray) × (Unit) × Unit) × (Unit))) => slices_ContainsFunc_string_string_42 a.1.1))

theorem slices_ContainsFunc_string_string_42_ok : MdlOK Try.prog 41 slices_ContainsFunc_string_string_42M :=
  fn_ok (c := (bodyOf Try.f41)) Try.func41 (by rfl) (by kernel_rfl) (X := slices_ContainsFunc_string_string_42X) (by kernel_rfl) (rs := [.tmp 4]) (by kernel_rfl) (sh := slices_ContainsFunc_string_string_42R_) (un := (fun (x : ((Bool × Unit) × (Unit))) => x.1.1)) (mk := (fun (b : Bool) => ((b, ()), (())))) (fun _ => rfl) rfl (slices_ContainsFunc_string_string_42G) mixed (ann := .z) (AllS.all (l := []) (by kernel_rfl) trivial) (Nat.le_of_ble_eq_true (by kernel_rfl)) (by kernel_rfl) (fun a => by kernel_rfl)

/-! casebook/casebooklaw46.words -/

def law46_wordsR_ : Shp := ⟨[(0, .d true .bool)], []⟩

noncomputable abbrev law46_wordsX : Ctx (Bool) := ⟨11, tt, false, [], gam [(41, slices_ContainsFunc_string_string_42M)], lam [], resU 11 tt [] [.tmp 2] law46_wordsR_ (fun (x : ((Bool × Unit) × (Unit))) => x.1.1)⟩

theorem law46_wordsG : CtxOK Try.prog law46_wordsX := ⟨fits, gam_ok (AllM.all (l := [(41, slices_ContainsFunc_string_string_42M)]) ⟨slices_ContainsFunc_string_string_42_ok, trivial⟩)⟩

noncomputable abbrev law46_wordsM : Mdl := (mdlOf (.cons (.d false (.slice .str)) .nil) [] [] 1 law46_wordsR_ (fun (b : Bool) => ((b, ()), (()))) (fun (a : (((List ByteArray) × Unit) × (Unit))) => law46_words a.1.1))

theorem law46_words_ok : MdlOK Try.prog 12 law46_wordsM :=
  fn_ok (c := (bodyOf Try.f12)) Try.func12 (by rfl) (by kernel_rfl) (X := law46_wordsX) (by kernel_rfl) (rs := [.tmp 2]) (by kernel_rfl) (sh := law46_wordsR_) (un := (fun (x : ((Bool × Unit) × (Unit))) => x.1.1)) (mk := (fun (b : Bool) => ((b, ()), (())))) (fun _ => rfl) rfl (law46_wordsG) mixed (ann := .z) (AllS.all (l := []) (by kernel_rfl) trivial) (Nat.le_of_ble_eq_true (by kernel_rfl)) (by kernel_rfl) (fun a => by kernel_rfl)

/-! casebook/casebooklaw46.few$1 -/

def law46_few_1R_ : Shp := ⟨[(0, .d true .bool)], []⟩

noncomputable abbrev law46_few_1X : Ctx (Bool) := ⟨13, tt, false, [], gam [(12, law46_wordsM)], lam [], resU 13 tt [] [.tmp 2] law46_few_1R_ (fun (x : ((Bool × Unit) × (Unit))) => x.1.1)⟩

theorem law46_few_1G : CtxOK Try.prog law46_few_1X := ⟨fits, gam_ok (AllM.all (l := [(12, law46_wordsM)]) ⟨law46_words_ok, trivial⟩)⟩

noncomputable abbrev law46_few_1M : Mdl := (mdlOf (.cons (.d false Person.ty) .nil) [] [] 1 law46_few_1R_ (fun (b : Bool) => ((b, ()), (()))) (fun (a : ((Person × Unit) × (Unit))) => law46_few_1 a.1.1))

theorem law46_few_1_ok : MdlOK Try.prog 36 law46_few_1M :=
  fn_ok (c := (bodyOf Try.f36)) Try.func36 (by rfl) (by kernel_rfl) (X := law46_few_1X) (by kernel_rfl) (rs := [.tmp 2]) (by kernel_rfl) (sh := law46_few_1R_) (un := (fun (x : ((Bool × Unit) × (Unit))) => x.1.1)) (mk := (fun (b : Bool) => ((b, ()), (())))) (fun _ => rfl) rfl (law46_few_1G) mixed (ann := .z) (AllS.all (l := []) (by kernel_rfl) trivial) (Nat.le_of_ble_eq_true (by kernel_rfl)) (by kernel_rfl) (fun a => by kernel_rfl)

/-! slices.IndexFunc[[]casebook/api.Person,casebook/api.Person] -/

def slices_IndexFunc_api_Person_api_Person_36R_ : Shp := ⟨[(0, .d true (.int .i64))], []⟩

noncomputable abbrev slices_IndexFunc_api_Person_api_Person_36X : Ctx (Int) := ⟨19, tt, false, [], gam [(36, law46_few_1M)], lam [loopSumm (Int) 19 [] slices_IndexFunc_api_Person_api_Person_36L0I (C := ((List Person) × Int)) (S := Int) (fun (x : (((List Person) × (Unit) × Int × Int × Unit) × (Unit))) => ((x.1.1, x.1.2.2.1), x.1.2.2.2.1)) slices_IndexFunc_api_Person_api_Person_36L0E (CE := Unit) (E := Unit) (fun (c : Unit) (e : Unit) => ((()), (()))) (fun (c : ((List Person) × Int)) => ()) (fun {R} c a nx dn rt => slices_IndexFunc_api_Person_api_Person_36L0K c.1 c.2 a nx dn rt)], resU 19 tt [] [.tmp 4] slices_IndexFunc_api_Person_api_Person_36R_ (fun (x : ((Int × Unit) × (Unit))) => x.1.1)⟩

theorem slices_IndexFunc_api_Person_api_Person_36G : CtxOK Try.prog slices_IndexFunc_api_Person_api_Person_36X := ⟨fits, gam_ok (AllM.all (l := [(36, law46_few_1M)]) ⟨law46_few_1_ok, trivial⟩)⟩

theorem slices_IndexFunc_api_Person_api_Person_36S0 : SummOK Try.prog slices_IndexFunc_api_Person_api_Person_36X 0 (.block 0 (.loop (subC (bodyOf Try.f77) [true, false, true, false, false]))) :=
  loop_ok (shI := slices_IndexFunc_api_Person_api_Person_36L0I) (shE := slices_IndexFunc_api_Person_api_Person_36L0E) (C := ((List Person) × Int)) (S := Int) (CE := Unit) (E := Unit) (slices_IndexFunc_api_Person_api_Person_36G) mixed (ann := .z) (AllS.all (l := []) (by kernel_rfl) trivial) (mk := (fun (c : ((List Person) × Int)) (a : Int) => ((c.1, (()), c.2, a, ()), (())))) (unE := (fun (y : ((Unit) × (Unit))) => ((), ()))) rfl (fun _ => rfl) (fun _ => rfl) (fun R K D T c a => by kernel_rfl)

noncomputable abbrev slices_IndexFunc_api_Person_api_Person_36M : Mdl := (mdlOf (.cons (.d false (.slice Person.ty)) (.cons (.fn 36 .nil) .nil)) [] [] 1 slices_IndexFunc_api_Person_api_Person_36R_ (fun (b : Int) => ((b, ()), (()))) (fun (a : (((List Person) × (Unit) × Unit) × (Unit))) => slices_IndexFunc_api_Person_api_Person_36 a.1.1))

theorem slices_IndexFunc_api_Person_api_Person_36_ok : MdlOK Try.prog 77 slices_IndexFunc_api_Person_api_Person_36M :=
  fn_ok (c := (bodyOf Try.f77)) Try.func77 (by rfl) (by kernel_rfl) (X := slices_IndexFunc_api_Person_api_Person_36X) (by kernel_rfl) (rs := [.tmp 4]) (by kernel_rfl) (sh := slices_IndexFunc_api_Person_api_Person_36R_) (un := (fun (x : ((Int × Unit) × (Unit))) => x.1.1)) (mk := (fun (b : Int) => ((b, ()), (())))) (fun _ => rfl) rfl (slices_IndexFunc_api_Person_api_Person_36G) mixed (ann := (.two .z (.two (.two .z (.s 0)) .z))) (AllS.all (l := [(0, .block 0 (.loop (subC (bodyOf Try.f77) [true, false, true, false, false])))]) (by kernel_rfl) ⟨slices_IndexFunc_api_Person_api_Person_36S0, trivial⟩) (Nat.le_of_ble_eq_true (by kernel_rfl)) (by kernel_rfl) (fun a => by kernel_rfl)

/-! slices.ContainsFunc[[]casebook/api.Person,casebook/api.Person] -/

def slices_ContainsFunc_api_Person_api_Person_36R_ : Shp := ⟨[(0, .d true .bool)], []⟩

noncomputable abbrev slices_ContainsFunc_api_Person_api_Person_36X : Ctx (Bool) := ⟨9, tt, false, [], gam [(77, slices_IndexFunc_api_Person_api_Person_36M)], lam [], resU 9 tt [] [.tmp 4] slices_ContainsFunc_api_Person_api_Person_36R_ (fun (x : ((Bool × Unit) × (Unit))) => x.1.1)⟩

theorem slices_ContainsFunc_api_Person_api_Person_36G : CtxOK Try.prog slices_ContainsFunc_api_Person_api_Person_36X := ⟨fits, gam_ok (AllM.all (l := [(77, slices_IndexFunc_api_Person_api_Person_36M)]) ⟨slices_IndexFunc_api_Person_api_Person_36_ok, trivial⟩)⟩

noncomputable abbrev slices_ContainsFunc_api_Person_api_Person_36M : Mdl := (mdlOf (.cons (.d false (.slice Person.ty)) (.cons (.fn 36 .nil) .nil)) [] [] 1 slices_ContainsFunc_api_Person_api_Person_36R_ (fun (b : Bool) => ((b, ()), (()))) (fun (a : (((List Person) × (Unit) × Unit) × (Unit))) => slices_ContainsFunc_api_Person_api_Person_36 a.1.1))

theorem slices_ContainsFunc_api_Person_api_Person_36_ok : MdlOK Try.prog 35 slices_ContainsFunc_api_Person_api_Person_36M :=
  fn_ok (c := (bodyOf Try.f35)) Try.func35 (by rfl) (by kernel_rfl) (X := slices_ContainsFunc_api_Person_api_Person_36X) (by kernel_rfl) (rs := [.tmp 4]) (by kernel_rfl) (sh := slices_ContainsFunc_api_Person_api_Person_36R_) (un := (fun (x : ((Bool × Unit) × (Unit))) => x.1.1)) (mk := (fun (b : Bool) => ((b, ()), (())))) (fun _ => rfl) rfl (slices_ContainsFunc_api_Person_api_Person_36G) mixed (ann := .z) (AllS.all (l := []) (by kernel_rfl) trivial) (Nat.le_of_ble_eq_true (by kernel_rfl)) (by kernel_rfl) (fun a => by kernel_rfl)

/-! casebook/casebooklaw46.few$2 -/

def law46_few_2R_ : Shp := ⟨[(0, .d true .bool)], []⟩

noncomputable abbrev law46_few_2X : Ctx (Bool) := ⟨19, tt, false, [], gam [], lam [], resU 19 tt [] [.tmp 2] law46_few_2R_ (fun (x : ((Bool × Unit) × (Unit))) => x.1.1)⟩

theorem law46_few_2G : CtxOK Try.prog law46_few_2X := ⟨fits, gam_ok (AllM.all (l := []) trivial)⟩

noncomputable abbrev law46_few_2M : Mdl := (mdlOf (.cons (.d false Delegation.ty) .nil) [] [] 1 law46_few_2R_ (fun (b : Bool) => ((b, ()), (()))) (fun (a : ((Delegation × Unit) × (Unit))) => law46_few_2 a.1.1))

theorem law46_few_2_ok : MdlOK Try.prog 38 law46_few_2M :=
  fn_ok (c := (bodyOf Try.f38)) Try.func38 (by rfl) (by kernel_rfl) (X := law46_few_2X) (by kernel_rfl) (rs := [.tmp 2]) (by kernel_rfl) (sh := law46_few_2R_) (un := (fun (x : ((Bool × Unit) × (Unit))) => x.1.1)) (mk := (fun (b : Bool) => ((b, ()), (())))) (fun _ => rfl) rfl (law46_few_2G) mixed (ann := .z) (AllS.all (l := []) (by kernel_rfl) trivial) (Nat.le_of_ble_eq_true (by kernel_rfl)) (by kernel_rfl) (fun a => by kernel_rfl)

/-! slices.IndexFunc[[]casebook/api.Delegation,casebook/api.Delegation] -/

def slices_IndexFunc_api_Delegation_api_Delegation_38R_ : Shp := ⟨[(0, .d true (.int .i64))], []⟩

noncomputable abbrev slices_IndexFunc_api_Delegation_api_Delegation_38X : Ctx (Int) := ⟨19, tt, false, [], gam [(38, law46_few_2M)], lam [loopSumm (Int) 19 [] slices_IndexFunc_api_Delegation_api_Delegation_38L0I (C := ((List Delegation) × Int)) (S := Int) (fun (x : (((List Delegation) × (Unit) × Int × Int × Unit) × (Unit))) => ((x.1.1, x.1.2.2.1), x.1.2.2.2.1)) slices_IndexFunc_api_Delegation_api_Delegation_38L0E (CE := Unit) (E := Unit) (fun (c : Unit) (e : Unit) => ((()), (()))) (fun (c : ((List Delegation) × Int)) => ()) (fun {R} c a nx dn rt => slices_IndexFunc_api_Delegation_api_Delegation_38L0K c.1 c.2 a nx dn rt)], resU 19 tt [] [.tmp 4] slices_IndexFunc_api_Delegation_api_Delegation_38R_ (fun (x : ((Int × Unit) × (Unit))) => x.1.1)⟩

theorem slices_IndexFunc_api_Delegation_api_Delegation_38G : CtxOK Try.prog slices_IndexFunc_api_Delegation_api_Delegation_38X := ⟨fits, gam_ok (AllM.all (l := [(38, law46_few_2M)]) ⟨law46_few_2_ok, trivial⟩)⟩

theorem slices_IndexFunc_api_Delegation_api_Delegation_38S0 : SummOK Try.prog slices_IndexFunc_api_Delegation_api_Delegation_38X 0 (.block 0 (.loop (subC (bodyOf Try.f78) [true, false, true, false, false]))) :=
  loop_ok (shI := slices_IndexFunc_api_Delegation_api_Delegation_38L0I) (shE := slices_IndexFunc_api_Delegation_api_Delegation_38L0E) (C := ((List Delegation) × Int)) (S := Int) (CE := Unit) (E := Unit) (slices_IndexFunc_api_Delegation_api_Delegation_38G) mixed (ann := .z) (AllS.all (l := []) (by kernel_rfl) trivial) (mk := (fun (c : ((List Delegation) × Int)) (a : Int) => ((c.1, (()), c.2, a, ()), (())))) (unE := (fun (y : ((Unit) × (Unit))) => ((), ()))) rfl (fun _ => rfl) (fun _ => rfl) (fun R K D T c a => by kernel_rfl)

noncomputable abbrev slices_IndexFunc_api_Delegation_api_Delegation_38M : Mdl := (mdlOf (.cons (.d false (.slice Delegation.ty)) (.cons (.fn 38 .nil) .nil)) [] [] 1 slices_IndexFunc_api_Delegation_api_Delegation_38R_ (fun (b : Int) => ((b, ()), (()))) (fun (a : (((List Delegation) × (Unit) × Unit) × (Unit))) => slices_IndexFunc_api_Delegation_api_Delegation_38 a.1.1))

theorem slices_IndexFunc_api_Delegation_api_Delegation_38_ok : MdlOK Try.prog 78 slices_IndexFunc_api_Delegation_api_Delegation_38M :=
  fn_ok (c := (bodyOf Try.f78)) Try.func78 (by rfl) (by kernel_rfl) (X := slices_IndexFunc_api_Delegation_api_Delegation_38X) (by kernel_rfl) (rs := [.tmp 4]) (by kernel_rfl) (sh := slices_IndexFunc_api_Delegation_api_Delegation_38R_) (un := (fun (x : ((Int × Unit) × (Unit))) => x.1.1)) (mk := (fun (b : Int) => ((b, ()), (())))) (fun _ => rfl) rfl (slices_IndexFunc_api_Delegation_api_Delegation_38G) mixed (ann := (.two .z (.two (.two .z (.s 0)) .z))) (AllS.all (l := [(0, .block 0 (.loop (subC (bodyOf Try.f78) [true, false, true, false, false])))]) (by kernel_rfl) ⟨slices_IndexFunc_api_Delegation_api_Delegation_38S0, trivial⟩) (Nat.le_of_ble_eq_true (by kernel_rfl)) (by kernel_rfl) (fun a => by kernel_rfl)

/-! slices.ContainsFunc[[]casebook/api.Delegation,casebook/api.Delegation] -/

def slices_ContainsFunc_api_Delegation_api_Delegation_38R_ : Shp := ⟨[(0, .d true .bool)], []⟩

noncomputable abbrev slices_ContainsFunc_api_Delegation_api_Delegation_38X : Ctx (Bool) := ⟨9, tt, false, [], gam [(78, slices_IndexFunc_api_Delegation_api_Delegation_38M)], lam [], resU 9 tt [] [.tmp 4] slices_ContainsFunc_api_Delegation_api_Delegation_38R_ (fun (x : ((Bool × Unit) × (Unit))) => x.1.1)⟩

theorem slices_ContainsFunc_api_Delegation_api_Delegation_38G : CtxOK Try.prog slices_ContainsFunc_api_Delegation_api_Delegation_38X := ⟨fits, gam_ok (AllM.all (l := [(78, slices_IndexFunc_api_Delegation_api_Delegation_38M)]) ⟨slices_IndexFunc_api_Delegation_api_Delegation_38_ok, trivial⟩)⟩

noncomputable abbrev slices_ContainsFunc_api_Delegation_api_Delegation_38M : Mdl := (mdlOf (.cons (.d false (.slice Delegation.ty)) (.cons (.fn 38 .nil) .nil)) [] [] 1 slices_ContainsFunc_api_Delegation_api_Delegation_38R_ (fun (b : Bool) => ((b, ()), (()))) (fun (a : (((List Delegation) × (Unit) × Unit) × (Unit))) => slices_ContainsFunc_api_Delegation_api_Delegation_38 a.1.1))

theorem slices_ContainsFunc_api_Delegation_api_Delegation_38_ok : MdlOK Try.prog 37 slices_ContainsFunc_api_Delegation_api_Delegation_38M :=
  fn_ok (c := (bodyOf Try.f37)) Try.func37 (by rfl) (by kernel_rfl) (X := slices_ContainsFunc_api_Delegation_api_Delegation_38X) (by kernel_rfl) (rs := [.tmp 4]) (by kernel_rfl) (sh := slices_ContainsFunc_api_Delegation_api_Delegation_38R_) (un := (fun (x : ((Bool × Unit) × (Unit))) => x.1.1)) (mk := (fun (b : Bool) => ((b, ()), (())))) (fun _ => rfl) rfl (slices_ContainsFunc_api_Delegation_api_Delegation_38G) mixed (ann := .z) (AllS.all (l := []) (by kernel_rfl) trivial) (Nat.le_of_ble_eq_true (by kernel_rfl)) (by kernel_rfl) (fun a => by kernel_rfl)

/-! casebook/casebooklaw46.few$3 -/

def law46_few_3R_ : Shp := ⟨[(0, .d true .bool)], []⟩

noncomputable abbrev law46_few_3X : Ctx (Bool) := ⟨13, tt, false, [], gam [], lam [], resU 13 tt [] [.tmp 2] law46_few_3R_ (fun (x : ((Bool × Unit) × (Unit))) => x.1.1)⟩

theorem law46_few_3G : CtxOK Try.prog law46_few_3X := ⟨fits, gam_ok (AllM.all (l := []) trivial)⟩

noncomputable abbrev law46_few_3M : Mdl := (mdlOf (.cons (.d false Duty.ty) .nil) [] [] 1 law46_few_3R_ (fun (b : Bool) => ((b, ()), (()))) (fun (a : ((Duty × Unit) × (Unit))) => law46_few_3 a.1.1))

theorem law46_few_3_ok : MdlOK Try.prog 40 law46_few_3M :=
  fn_ok (c := (bodyOf Try.f40)) Try.func40 (by rfl) (by kernel_rfl) (X := law46_few_3X) (by kernel_rfl) (rs := [.tmp 2]) (by kernel_rfl) (sh := law46_few_3R_) (un := (fun (x : ((Bool × Unit) × (Unit))) => x.1.1)) (mk := (fun (b : Bool) => ((b, ()), (())))) (fun _ => rfl) rfl (law46_few_3G) mixed (ann := .z) (AllS.all (l := []) (by kernel_rfl) trivial) (Nat.le_of_ble_eq_true (by kernel_rfl)) (by kernel_rfl) (fun a => by kernel_rfl)

/-! slices.IndexFunc[[]casebook/api.Duty,casebook/api.Duty] -/

def slices_IndexFunc_api_Duty_api_Duty_40R_ : Shp := ⟨[(0, .d true (.int .i64))], []⟩

noncomputable abbrev slices_IndexFunc_api_Duty_api_Duty_40X : Ctx (Int) := ⟨19, tt, false, [], gam [(40, law46_few_3M)], lam [loopSumm (Int) 19 [] slices_IndexFunc_api_Duty_api_Duty_40L0I (C := ((List Duty) × Int)) (S := Int) (fun (x : (((List Duty) × (Unit) × Int × Int × Unit) × (Unit))) => ((x.1.1, x.1.2.2.1), x.1.2.2.2.1)) slices_IndexFunc_api_Duty_api_Duty_40L0E (CE := Unit) (E := Unit) (fun (c : Unit) (e : Unit) => ((()), (()))) (fun (c : ((List Duty) × Int)) => ()) (fun {R} c a nx dn rt => slices_IndexFunc_api_Duty_api_Duty_40L0K c.1 c.2 a nx dn rt)], resU 19 tt [] [.tmp 4] slices_IndexFunc_api_Duty_api_Duty_40R_ (fun (x : ((Int × Unit) × (Unit))) => x.1.1)⟩

theorem slices_IndexFunc_api_Duty_api_Duty_40G : CtxOK Try.prog slices_IndexFunc_api_Duty_api_Duty_40X := ⟨fits, gam_ok (AllM.all (l := [(40, law46_few_3M)]) ⟨law46_few_3_ok, trivial⟩)⟩

theorem slices_IndexFunc_api_Duty_api_Duty_40S0 : SummOK Try.prog slices_IndexFunc_api_Duty_api_Duty_40X 0 (.block 0 (.loop (subC (bodyOf Try.f79) [true, false, true, false, false]))) :=
  loop_ok (shI := slices_IndexFunc_api_Duty_api_Duty_40L0I) (shE := slices_IndexFunc_api_Duty_api_Duty_40L0E) (C := ((List Duty) × Int)) (S := Int) (CE := Unit) (E := Unit) (slices_IndexFunc_api_Duty_api_Duty_40G) mixed (ann := .z) (AllS.all (l := []) (by kernel_rfl) trivial) (mk := (fun (c : ((List Duty) × Int)) (a : Int) => ((c.1, (()), c.2, a, ()), (())))) (unE := (fun (y : ((Unit) × (Unit))) => ((), ()))) rfl (fun _ => rfl) (fun _ => rfl) (fun R K D T c a => by kernel_rfl)

noncomputable abbrev slices_IndexFunc_api_Duty_api_Duty_40M : Mdl := (mdlOf (.cons (.d false (.slice Duty.ty)) (.cons (.fn 40 .nil) .nil)) [] [] 1 slices_IndexFunc_api_Duty_api_Duty_40R_ (fun (b : Int) => ((b, ()), (()))) (fun (a : (((List Duty) × (Unit) × Unit) × (Unit))) => slices_IndexFunc_api_Duty_api_Duty_40 a.1.1))

theorem slices_IndexFunc_api_Duty_api_Duty_40_ok : MdlOK Try.prog 79 slices_IndexFunc_api_Duty_api_Duty_40M :=
  fn_ok (c := (bodyOf Try.f79)) Try.func79 (by rfl) (by kernel_rfl) (X := slices_IndexFunc_api_Duty_api_Duty_40X) (by kernel_rfl) (rs := [.tmp 4]) (by kernel_rfl) (sh := slices_IndexFunc_api_Duty_api_Duty_40R_) (un := (fun (x : ((Int × Unit) × (Unit))) => x.1.1)) (mk := (fun (b : Int) => ((b, ()), (())))) (fun _ => rfl) rfl (slices_IndexFunc_api_Duty_api_Duty_40G) mixed (ann := (.two .z (.two (.two .z (.s 0)) .z))) (AllS.all (l := [(0, .block 0 (.loop (subC (bodyOf Try.f79) [true, false, true, false, false])))]) (by kernel_rfl) ⟨slices_IndexFunc_api_Duty_api_Duty_40S0, trivial⟩) (Nat.le_of_ble_eq_true (by kernel_rfl)) (by kernel_rfl) (fun a => by kernel_rfl)

/-! slices.ContainsFunc[[]casebook/api.Duty,casebook/api.Duty] -/

def slices_ContainsFunc_api_Duty_api_Duty_40R_ : Shp := ⟨[(0, .d true .bool)], []⟩

noncomputable abbrev slices_ContainsFunc_api_Duty_api_Duty_40X : Ctx (Bool) := ⟨9, tt, false, [], gam [(79, slices_IndexFunc_api_Duty_api_Duty_40M)], lam [], resU 9 tt [] [.tmp 4] slices_ContainsFunc_api_Duty_api_Duty_40R_ (fun (x : ((Bool × Unit) × (Unit))) => x.1.1)⟩

theorem slices_ContainsFunc_api_Duty_api_Duty_40G : CtxOK Try.prog slices_ContainsFunc_api_Duty_api_Duty_40X := ⟨fits, gam_ok (AllM.all (l := [(79, slices_IndexFunc_api_Duty_api_Duty_40M)]) ⟨slices_IndexFunc_api_Duty_api_Duty_40_ok, trivial⟩)⟩

noncomputable abbrev slices_ContainsFunc_api_Duty_api_Duty_40M : Mdl := (mdlOf (.cons (.d false (.slice Duty.ty)) (.cons (.fn 40 .nil) .nil)) [] [] 1 slices_ContainsFunc_api_Duty_api_Duty_40R_ (fun (b : Bool) => ((b, ()), (()))) (fun (a : (((List Duty) × (Unit) × Unit) × (Unit))) => slices_ContainsFunc_api_Duty_api_Duty_40 a.1.1))

theorem slices_ContainsFunc_api_Duty_api_Duty_40_ok : MdlOK Try.prog 39 slices_ContainsFunc_api_Duty_api_Duty_40M :=
  fn_ok (c := (bodyOf Try.f39)) Try.func39 (by rfl) (by kernel_rfl) (X := slices_ContainsFunc_api_Duty_api_Duty_40X) (by kernel_rfl) (rs := [.tmp 4]) (by kernel_rfl) (sh := slices_ContainsFunc_api_Duty_api_Duty_40R_) (un := (fun (x : ((Bool × Unit) × (Unit))) => x.1.1)) (mk := (fun (b : Bool) => ((b, ()), (())))) (fun _ => rfl) rfl (slices_ContainsFunc_api_Duty_api_Duty_40G) mixed (ann := .z) (AllS.all (l := []) (by kernel_rfl) trivial) (Nat.le_of_ble_eq_true (by kernel_rfl)) (by kernel_rfl) (fun a => by kernel_rfl)

/-! casebook/casebooklaw46.few -/

def law46_fewR_ : Shp := ⟨[(0, .d true .bool)], []⟩

noncomputable abbrev law46_fewX : Ctx (Bool) := ⟨49, tt, false, [], gam [(35, slices_ContainsFunc_api_Person_api_Person_36M), (37, slices_ContainsFunc_api_Delegation_api_Delegation_38M), (39, slices_ContainsFunc_api_Duty_api_Duty_40M)], lam [], resU 49 tt [] [.tmp 2] law46_fewR_ (fun (x : ((Bool × Unit) × (Unit))) => x.1.1)⟩

theorem law46_fewG : CtxOK Try.prog law46_fewX := ⟨fits, gam_ok (AllM.all (l := [(35, slices_ContainsFunc_api_Person_api_Person_36M), (37, slices_ContainsFunc_api_Delegation_api_Delegation_38M), (39, slices_ContainsFunc_api_Duty_api_Duty_40M)]) ⟨slices_ContainsFunc_api_Person_api_Person_36_ok, slices_ContainsFunc_api_Delegation_api_Delegation_38_ok, slices_ContainsFunc_api_Duty_api_Duty_40_ok, trivial⟩)⟩

noncomputable abbrev law46_fewM : Mdl := (mdlOf (.cons (.d false Org.ty) .nil) [] [] 1 law46_fewR_ (fun (b : Bool) => ((b, ()), (()))) (fun (a : ((Org × Unit) × (Unit))) => law46_few a.1.1))

theorem law46_few_ok : MdlOK Try.prog 10 law46_fewM :=
  fn_ok (c := (bodyOf Try.f10)) Try.func10 (by rfl) (by kernel_rfl) (X := law46_fewX) (by kernel_rfl) (rs := [.tmp 2]) (by kernel_rfl) (sh := law46_fewR_) (un := (fun (x : ((Bool × Unit) × (Unit))) => x.1.1)) (mk := (fun (b : Bool) => ((b, ()), (())))) (fun _ => rfl) rfl (law46_fewG) mixed (ann := .z) (AllS.all (l := []) (by kernel_rfl) trivial) (Nat.le_of_ble_eq_true (by kernel_rfl)) (by kernel_rfl) (fun a => by kernel_rfl)

/-! casebook/casebooklaw46.open -/

def law46_openR_ : Shp := ⟨[(0, .d true .bool)], []⟩

noncomputable abbrev law46_openX : Ctx (Bool) := ⟨21, tt, false, [], gam [(12, law46_wordsM)], lam [], resU 21 tt [] [.tmp 4] law46_openR_ (fun (x : ((Bool × Unit) × (Unit))) => x.1.1)⟩

theorem law46_openG : CtxOK Try.prog law46_openX := ⟨fits, gam_ok (AllM.all (l := [(12, law46_wordsM)]) ⟨law46_words_ok, trivial⟩)⟩

noncomputable abbrev law46_openM : Mdl := (mdlOf (.cons (.d false (.slice .str)) (.cons (.d false (.slice .str)) .nil)) [] [] 1 law46_openR_ (fun (b : Bool) => ((b, ()), (()))) (fun (a : (((List ByteArray) × (List ByteArray) × Unit) × (Unit))) => law46_open a.1.1 a.1.2.1))

theorem law46_open_ok : MdlOK Try.prog 11 law46_openM :=
  fn_ok (c := (bodyOf Try.f11)) Try.func11 (by rfl) (by kernel_rfl) (X := law46_openX) (by kernel_rfl) (rs := [.tmp 4]) (by kernel_rfl) (sh := law46_openR_) (un := (fun (x : ((Bool × Unit) × (Unit))) => x.1.1)) (mk := (fun (b : Bool) => ((b, ()), (())))) (fun _ => rfl) rfl (law46_openG) mixed (ann := .z) (AllS.all (l := []) (by kernel_rfl) trivial) (Nat.le_of_ble_eq_true (by kernel_rfl)) (by kernel_rfl) (fun a => by kernel_rfl)

/-! casebook/casebooklaw46.tasks$1 -/

def law46_tasks_1R_ : Shp := ⟨[(0, .d true .bool)], []⟩

noncomputable abbrev law46_tasks_1X : Ctx (Bool) := ⟨13, tt, false, [], gam [], lam [], resU 13 tt [] [.tmp 2] law46_tasks_1R_ (fun (x : ((Bool × Unit) × (Unit))) => x.1.1)⟩

theorem law46_tasks_1G : CtxOK Try.prog law46_tasks_1X := ⟨fits, gam_ok (AllM.all (l := []) trivial)⟩

noncomputable abbrev law46_tasks_1M : Mdl := (mdlOf (.cons (.d false Task.ty) .nil) [] [] 1 law46_tasks_1R_ (fun (b : Bool) => ((b, ()), (()))) (fun (a : ((Task × Unit) × (Unit))) => law46_tasks_1 a.1.1))

theorem law46_tasks_1_ok : MdlOK Try.prog 44 law46_tasks_1M :=
  fn_ok (c := (bodyOf Try.f44)) Try.func44 (by rfl) (by kernel_rfl) (X := law46_tasks_1X) (by kernel_rfl) (rs := [.tmp 2]) (by kernel_rfl) (sh := law46_tasks_1R_) (un := (fun (x : ((Bool × Unit) × (Unit))) => x.1.1)) (mk := (fun (b : Bool) => ((b, ()), (())))) (fun _ => rfl) rfl (law46_tasks_1G) mixed (ann := .z) (AllS.all (l := []) (by kernel_rfl) trivial) (Nat.le_of_ble_eq_true (by kernel_rfl)) (by kernel_rfl) (fun a => by kernel_rfl)

/-! slices.IndexFunc[[]casebook/api.Task,casebook/api.Task] -/

def slices_IndexFunc_api_Task_api_Task_44R_ : Shp := ⟨[(0, .d true (.int .i64))], []⟩

noncomputable abbrev slices_IndexFunc_api_Task_api_Task_44X : Ctx (Int) := ⟨19, tt, false, [], gam [(44, law46_tasks_1M)], lam [loopSumm (Int) 19 [] slices_IndexFunc_api_Task_api_Task_44L0I (C := ((List Task) × Int)) (S := Int) (fun (x : (((List Task) × (Unit) × Int × Int × Unit) × (Unit))) => ((x.1.1, x.1.2.2.1), x.1.2.2.2.1)) slices_IndexFunc_api_Task_api_Task_44L0E (CE := Unit) (E := Unit) (fun (c : Unit) (e : Unit) => ((()), (()))) (fun (c : ((List Task) × Int)) => ()) (fun {R} c a nx dn rt => slices_IndexFunc_api_Task_api_Task_44L0K c.1 c.2 a nx dn rt)], resU 19 tt [] [.tmp 4] slices_IndexFunc_api_Task_api_Task_44R_ (fun (x : ((Int × Unit) × (Unit))) => x.1.1)⟩

theorem slices_IndexFunc_api_Task_api_Task_44G : CtxOK Try.prog slices_IndexFunc_api_Task_api_Task_44X := ⟨fits, gam_ok (AllM.all (l := [(44, law46_tasks_1M)]) ⟨law46_tasks_1_ok, trivial⟩)⟩

theorem slices_IndexFunc_api_Task_api_Task_44S0 : SummOK Try.prog slices_IndexFunc_api_Task_api_Task_44X 0 (.block 0 (.loop (subC (bodyOf Try.f81) [true, false, true, false, false]))) :=
  loop_ok (shI := slices_IndexFunc_api_Task_api_Task_44L0I) (shE := slices_IndexFunc_api_Task_api_Task_44L0E) (C := ((List Task) × Int)) (S := Int) (CE := Unit) (E := Unit) (slices_IndexFunc_api_Task_api_Task_44G) mixed (ann := .z) (AllS.all (l := []) (by kernel_rfl) trivial) (mk := (fun (c : ((List Task) × Int)) (a : Int) => ((c.1, (()), c.2, a, ()), (())))) (unE := (fun (y : ((Unit) × (Unit))) => ((), ()))) rfl (fun _ => rfl) (fun _ => rfl) (fun R K D T c a => by kernel_rfl)

noncomputable abbrev slices_IndexFunc_api_Task_api_Task_44M : Mdl := (mdlOf (.cons (.d false (.slice Task.ty)) (.cons (.fn 44 .nil) .nil)) [] [] 1 slices_IndexFunc_api_Task_api_Task_44R_ (fun (b : Int) => ((b, ()), (()))) (fun (a : (((List Task) × (Unit) × Unit) × (Unit))) => slices_IndexFunc_api_Task_api_Task_44 a.1.1))

theorem slices_IndexFunc_api_Task_api_Task_44_ok : MdlOK Try.prog 81 slices_IndexFunc_api_Task_api_Task_44M :=
  fn_ok (c := (bodyOf Try.f81)) Try.func81 (by rfl) (by kernel_rfl) (X := slices_IndexFunc_api_Task_api_Task_44X) (by kernel_rfl) (rs := [.tmp 4]) (by kernel_rfl) (sh := slices_IndexFunc_api_Task_api_Task_44R_) (un := (fun (x : ((Int × Unit) × (Unit))) => x.1.1)) (mk := (fun (b : Int) => ((b, ()), (())))) (fun _ => rfl) rfl (slices_IndexFunc_api_Task_api_Task_44G) mixed (ann := (.two .z (.two (.two .z (.s 0)) .z))) (AllS.all (l := [(0, .block 0 (.loop (subC (bodyOf Try.f81) [true, false, true, false, false])))]) (by kernel_rfl) ⟨slices_IndexFunc_api_Task_api_Task_44S0, trivial⟩) (Nat.le_of_ble_eq_true (by kernel_rfl)) (by kernel_rfl) (fun a => by kernel_rfl)

/-! slices.ContainsFunc[[]casebook/api.Task,casebook/api.Task] -/

def slices_ContainsFunc_api_Task_api_Task_44R_ : Shp := ⟨[(0, .d true .bool)], []⟩

noncomputable abbrev slices_ContainsFunc_api_Task_api_Task_44X : Ctx (Bool) := ⟨9, tt, false, [], gam [(81, slices_IndexFunc_api_Task_api_Task_44M)], lam [], resU 9 tt [] [.tmp 4] slices_ContainsFunc_api_Task_api_Task_44R_ (fun (x : ((Bool × Unit) × (Unit))) => x.1.1)⟩

theorem slices_ContainsFunc_api_Task_api_Task_44G : CtxOK Try.prog slices_ContainsFunc_api_Task_api_Task_44X := ⟨fits, gam_ok (AllM.all (l := [(81, slices_IndexFunc_api_Task_api_Task_44M)]) ⟨slices_IndexFunc_api_Task_api_Task_44_ok, trivial⟩)⟩

noncomputable abbrev slices_ContainsFunc_api_Task_api_Task_44M : Mdl := (mdlOf (.cons (.d false (.slice Task.ty)) (.cons (.fn 44 .nil) .nil)) [] [] 1 slices_ContainsFunc_api_Task_api_Task_44R_ (fun (b : Bool) => ((b, ()), (()))) (fun (a : (((List Task) × (Unit) × Unit) × (Unit))) => slices_ContainsFunc_api_Task_api_Task_44 a.1.1))

theorem slices_ContainsFunc_api_Task_api_Task_44_ok : MdlOK Try.prog 43 slices_ContainsFunc_api_Task_api_Task_44M :=
  fn_ok (c := (bodyOf Try.f43)) Try.func43 (by rfl) (by kernel_rfl) (X := slices_ContainsFunc_api_Task_api_Task_44X) (by kernel_rfl) (rs := [.tmp 4]) (by kernel_rfl) (sh := slices_ContainsFunc_api_Task_api_Task_44R_) (un := (fun (x : ((Bool × Unit) × (Unit))) => x.1.1)) (mk := (fun (b : Bool) => ((b, ()), (())))) (fun _ => rfl) rfl (slices_ContainsFunc_api_Task_api_Task_44G) mixed (ann := .z) (AllS.all (l := []) (by kernel_rfl) trivial) (Nat.le_of_ble_eq_true (by kernel_rfl)) (by kernel_rfl) (fun a => by kernel_rfl)

/-! casebook/casebooklaw46.tasks -/

def law46_tasksR_ : Shp := ⟨[(0, .d true .bool)], []⟩

noncomputable abbrev law46_tasksX : Ctx (Bool) := ⟨21, tt, false, [], gam [(43, slices_ContainsFunc_api_Task_api_Task_44M)], lam [], resU 21 tt [] [.tmp 2] law46_tasksR_ (fun (x : ((Bool × Unit) × (Unit))) => x.1.1)⟩

theorem law46_tasksG : CtxOK Try.prog law46_tasksX := ⟨fits, gam_ok (AllM.all (l := [(43, slices_ContainsFunc_api_Task_api_Task_44M)]) ⟨slices_ContainsFunc_api_Task_api_Task_44_ok, trivial⟩)⟩

noncomputable abbrev law46_tasksM : Mdl := (mdlOf (.cons (.d false (.slice Task.ty)) .nil) [] [] 1 law46_tasksR_ (fun (b : Bool) => ((b, ()), (()))) (fun (a : (((List Task) × Unit) × (Unit))) => law46_tasks a.1.1))

theorem law46_tasks_ok : MdlOK Try.prog 13 law46_tasksM :=
  fn_ok (c := (bodyOf Try.f13)) Try.func13 (by rfl) (by kernel_rfl) (X := law46_tasksX) (by kernel_rfl) (rs := [.tmp 2]) (by kernel_rfl) (sh := law46_tasksR_) (un := (fun (x : ((Bool × Unit) × (Unit))) => x.1.1)) (mk := (fun (b : Bool) => ((b, ()), (())))) (fun _ => rfl) rfl (law46_tasksG) mixed (ann := .z) (AllS.all (l := []) (by kernel_rfl) trivial) (Nat.le_of_ble_eq_true (by kernel_rfl)) (by kernel_rfl) (fun a => by kernel_rfl)

/-! casebook/roles.Check -/

def roles_CheckR_ : Shp := ⟨[(0, .d true .bool)], []⟩

noncomputable abbrev roles_CheckX : Ctx (Bool) := ⟨64, tt, false, [], gam [(45, roles_givenM), (46, roles_findM), (47, slices_Contains_string_stringM), (48, roles_mayM)], lam [loopSumm (Bool) 64 [] roles_CheckL0I (C := ((List ByteArray) × (List ByteArray) × (List ByteArray) × Int × (List Task) × (List ByteArray) × Int × (List Person) × (List Delegation) × (List Duty))) (S := Int) (fun (x : (((List ByteArray) × (List ByteArray) × (List ByteArray) × Int × (List Task) × Unit × (List ByteArray) × Int × Int × Unit) × (((List Person) × (List Delegation) × (List Duty) × Unit) × Unit))) => ((x.1.1, x.1.2.1, x.1.2.2.1, x.1.2.2.2.1, x.1.2.2.2.2.1, x.1.2.2.2.2.2.2.1, x.1.2.2.2.2.2.2.2.1, x.2.1.1, x.2.1.2.1, x.2.1.2.2.1), x.1.2.2.2.2.2.2.2.2.1)) roles_CheckL0E (CE := Unit) (E := Unit) (fun (c : Unit) (e : Unit) => ((()), (()))) (fun (c : ((List ByteArray) × (List ByteArray) × (List ByteArray) × Int × (List Task) × (List ByteArray) × Int × (List Person) × (List Delegation) × (List Duty))) => ()) (fun {R} c a nx dn rt => roles_CheckL0K c.1 c.2.1 c.2.2.1 c.2.2.2.1 c.2.2.2.2.1 c.2.2.2.2.2.1 c.2.2.2.2.2.2.1 c.2.2.2.2.2.2.2.1 c.2.2.2.2.2.2.2.2.1 c.2.2.2.2.2.2.2.2.2 a nx dn rt)], resU 64 tt [] [.tmp 12] roles_CheckR_ (fun (x : ((Bool × Unit) × (Unit))) => x.1.1)⟩

theorem roles_CheckG : CtxOK Try.prog roles_CheckX := ⟨fits, gam_ok (AllM.all (l := [(45, roles_givenM), (46, roles_findM), (47, slices_Contains_string_stringM), (48, roles_mayM)]) ⟨roles_given_ok, roles_find_ok, slices_Contains_string_string_ok, roles_may_ok, trivial⟩)⟩

theorem roles_CheckS0 : SummOK Try.prog roles_CheckX 0 (.block 0 (.loop (subC (bodyOf Try.f14) [true, true, false, true, false, false]))) :=
  loop_ok (shI := roles_CheckL0I) (shE := roles_CheckL0E) (C := ((List ByteArray) × (List ByteArray) × (List ByteArray) × Int × (List Task) × (List ByteArray) × Int × (List Person) × (List Delegation) × (List Duty))) (S := Int) (CE := Unit) (E := Unit) (roles_CheckG) mixed (ann := (.two .z (.two .z (.two (.one (.two .z (.two (.d [0, 0, 3, 7, 15, 31, 31, 127, 31, 511, 1023, 2047, 4095, 4095, 4095, 4095, 53247, 118783, 4095, 4095, 790527, 1839103, 4095, 4095, 16777215, 33554431, 67108863] [] []) .z))) .z)))) (AllS.all (l := []) (by kernel_rfl) trivial) (mk := (fun (c : ((List ByteArray) × (List ByteArray) × (List ByteArray) × Int × (List Task) × (List ByteArray) × Int × (List Person) × (List Delegation) × (List Duty))) (a : Int) => ((c.1, c.2.1, c.2.2.1, c.2.2.2.1, c.2.2.2.2.1, (), c.2.2.2.2.2.1, c.2.2.2.2.2.2.1, a, ()), ((c.2.2.2.2.2.2.2.1, c.2.2.2.2.2.2.2.2.1, c.2.2.2.2.2.2.2.2.2, ()), ())))) (unE := (fun (y : ((Unit) × (Unit))) => ((), ()))) rfl (fun _ => rfl) (fun _ => rfl) (fun R K D T c a => by kernel_rfl)

noncomputable abbrev roles_CheckM : Mdl := (mdlOf (.cons (.d true Org.ty) (.cons (.d false (.slice .str)) (.cons (.d false (.slice .str)) (.cons (.d false (.slice .str)) (.cons (.d false (.int .i64)) (.cons (.d false (.slice Task.ty)) .nil)))))) [] [] 1 roles_CheckR_ (fun (b : Bool) => ((b, ()), (()))) (fun (a : ((Org × (List ByteArray) × (List ByteArray) × (List ByteArray) × Int × (List Task) × Unit) × (Unit))) => roles_Check a.1.1 a.1.2.1 a.1.2.2.1 a.1.2.2.2.1 a.1.2.2.2.2.1 a.1.2.2.2.2.2.1))

theorem roles_Check_ok : MdlOK Try.prog 14 roles_CheckM :=
  fn_ok (c := (bodyOf Try.f14)) Try.func14 (by rfl) (by kernel_rfl) (X := roles_CheckX) (by kernel_rfl) (rs := [.tmp 12]) (by kernel_rfl) (sh := roles_CheckR_) (un := (fun (x : ((Bool × Unit) × (Unit))) => x.1.1)) (mk := (fun (b : Bool) => ((b, ()), (())))) (fun _ => rfl) rfl (roles_CheckG) mixed (ann := (.two .z (.two .z (.two (.two .z (.s 0)) .z)))) (AllS.all (l := [(0, .block 0 (.loop (subC (bodyOf Try.f14) [true, true, false, true, false, false])))]) (by kernel_rfl) ⟨roles_CheckS0, trivial⟩) (Nat.le_of_ble_eq_true (by kernel_rfl)) (by kernel_rfl) (fun a => by kernel_rfl)

/-! casebook/casebookref02.letter -/

def ref02_letterR_ : Shp := ⟨[(0, .d true .bool)], []⟩

noncomputable abbrev ref02_letterX : Ctx (Bool) := ⟨17, tt, false, [], gam [], lam [], resU 17 tt [] [.tmp 2] ref02_letterR_ (fun (x : ((Bool × Unit) × (Unit))) => x.1.1)⟩

theorem ref02_letterG : CtxOK Try.prog ref02_letterX := ⟨fits, gam_ok (AllM.all (l := []) trivial)⟩

noncomputable abbrev ref02_letterM : Mdl := (mdlOf (.cons (.d false (.int .u8)) .nil) [] [] 1 ref02_letterR_ (fun (b : Bool) => ((b, ()), (()))) (fun (a : ((Int × Unit) × (Unit))) => ref02_letter a.1.1))

theorem ref02_letter_ok : MdlOK Try.prog 69 ref02_letterM :=
  fn_ok (c := (bodyOf Try.f69)) Try.func69 (by rfl) (by kernel_rfl) (X := ref02_letterX) (by kernel_rfl) (rs := [.tmp 2]) (by kernel_rfl) (sh := ref02_letterR_) (un := (fun (x : ((Bool × Unit) × (Unit))) => x.1.1)) (mk := (fun (b : Bool) => ((b, ()), (())))) (fun _ => rfl) rfl (ref02_letterG) mixed (ann := .z) (AllS.all (l := []) (by kernel_rfl) trivial) (Nat.le_of_ble_eq_true (by kernel_rfl)) (by kernel_rfl) (fun a => by kernel_rfl)

/-! casebook/casebookref02.IsName -/

def ref02_IsNameR_ : Shp := ⟨[(0, .d true .bool)], []⟩

noncomputable abbrev ref02_IsNameX : Ctx (Bool) := ⟨52, tt, false, [], gam [(69, ref02_letterM)], lam [loopSumm (Bool) 52 [] ref02_IsNameL0I (C := ByteArray) (S := Int) (fun (x : ((ByteArray × Int × Unit) × (Unit))) => (x.1.1, x.1.2.1)) ref02_IsNameL0E (CE := Unit) (E := Unit) (fun (c : Unit) (e : Unit) => ((()), (()))) (fun (c : ByteArray) => ()) (fun {R} c a nx dn rt => ref02_IsNameL0K c a nx dn rt)], resU 52 tt [] [.tmp 2] ref02_IsNameR_ (fun (x : ((Bool × Unit) × (Unit))) => x.1.1)⟩

theorem ref02_IsNameG : CtxOK Try.prog ref02_IsNameX := ⟨fits, gam_ok (AllM.all (l := [(69, ref02_letterM)]) ⟨ref02_letter_ok, trivial⟩)⟩

theorem ref02_IsNameS0 : SummOK Try.prog ref02_IsNameX 0 (.block 0 (.loop (subC (bodyOf Try.f24) [true, true, false, true, false, false]))) :=
  loop_ok (shI := ref02_IsNameL0I) (shE := ref02_IsNameL0E) (C := ByteArray) (S := Int) (CE := Unit) (E := Unit) (ref02_IsNameG) mixed (ann := .z) (AllS.all (l := []) (by kernel_rfl) trivial) (mk := (fun (c : ByteArray) (a : Int) => ((c, a, ()), (())))) (unE := (fun (y : ((Unit) × (Unit))) => ((), ()))) rfl (fun _ => rfl) (fun _ => rfl) (fun R K D T c a => by kernel_rfl)

noncomputable abbrev ref02_IsNameM : Mdl := (mdlOf (.cons (.d false .str) .nil) [] [] 1 ref02_IsNameR_ (fun (b : Bool) => ((b, ()), (()))) (fun (a : ((ByteArray × Unit) × (Unit))) => ref02_IsName a.1.1))

theorem ref02_IsName_ok : MdlOK Try.prog 24 ref02_IsNameM :=
  fn_ok (c := (bodyOf Try.f24)) Try.func24 (by rfl) (by kernel_rfl) (X := ref02_IsNameX) (by kernel_rfl) (rs := [.tmp 2]) (by kernel_rfl) (sh := ref02_IsNameR_) (un := (fun (x : ((Bool × Unit) × (Unit))) => x.1.1)) (mk := (fun (b : Bool) => ((b, ()), (())))) (fun _ => rfl) rfl (ref02_IsNameG) mixed (ann := (.two .z (.two .z (.two (.two .z (.s 0)) .z)))) (AllS.all (l := [(0, .block 0 (.loop (subC (bodyOf Try.f24) [true, true, false, true, false, false])))]) (by kernel_rfl) ⟨ref02_IsNameS0, trivial⟩) (Nat.le_of_ble_eq_true (by kernel_rfl)) (by kernel_rfl) (fun a => by kernel_rfl)

/-! casebook/casebookref02.Names -/

def ref02_NamesR_ : Shp := ⟨[(0, .d true .bool)], []⟩

noncomputable abbrev ref02_NamesX : Ctx (Bool) := ⟨16, tt, false, [], gam [(24, ref02_IsNameM)], lam [loopSumm (Bool) 16 [] ref02_NamesL0I (C := (List ByteArray)) (S := Int) (fun (x : (((List ByteArray) × Int × Unit) × (Unit))) => (x.1.1, x.1.2.1)) ref02_NamesL0E (CE := Unit) (E := Unit) (fun (c : Unit) (e : Unit) => ((()), (()))) (fun (c : (List ByteArray)) => ()) (fun {R} c a nx dn rt => ref02_NamesL0K c a nx dn rt)], resU 16 tt [] [.tmp 2] ref02_NamesR_ (fun (x : ((Bool × Unit) × (Unit))) => x.1.1)⟩

theorem ref02_NamesG : CtxOK Try.prog ref02_NamesX := ⟨fits, gam_ok (AllM.all (l := [(24, ref02_IsNameM)]) ⟨ref02_IsName_ok, trivial⟩)⟩

theorem ref02_NamesS0 : SummOK Try.prog ref02_NamesX 0 (.block 0 (.loop (subC (bodyOf Try.f84) [true, false, true, false, false]))) :=
  loop_ok (shI := ref02_NamesL0I) (shE := ref02_NamesL0E) (C := (List ByteArray)) (S := Int) (CE := Unit) (E := Unit) (ref02_NamesG) mixed (ann := .z) (AllS.all (l := []) (by kernel_rfl) trivial) (mk := (fun (c : (List ByteArray)) (a : Int) => ((c, a, ()), (())))) (unE := (fun (y : ((Unit) × (Unit))) => ((), ()))) rfl (fun _ => rfl) (fun _ => rfl) (fun R K D T c a => by kernel_rfl)

noncomputable abbrev ref02_NamesM : Mdl := (mdlOf (.cons (.d false (.slice .str)) .nil) [] [] 1 ref02_NamesR_ (fun (b : Bool) => ((b, ()), (()))) (fun (a : (((List ByteArray) × Unit) × (Unit))) => ref02_Names a.1.1))

theorem ref02_Names_ok : MdlOK Try.prog 84 ref02_NamesM :=
  fn_ok (c := (bodyOf Try.f84)) Try.func84 (by rfl) (by kernel_rfl) (X := ref02_NamesX) (by kernel_rfl) (rs := [.tmp 2]) (by kernel_rfl) (sh := ref02_NamesR_) (un := (fun (x : ((Bool × Unit) × (Unit))) => x.1.1)) (mk := (fun (b : Bool) => ((b, ()), (())))) (fun _ => rfl) rfl (ref02_NamesG) mixed (ann := (.two .z (.two (.two .z (.s 0)) .z))) (AllS.all (l := [(0, .block 0 (.loop (subC (bodyOf Try.f84) [true, false, true, false, false])))]) (by kernel_rfl) ⟨ref02_NamesS0, trivial⟩) (Nat.le_of_ble_eq_true (by kernel_rfl)) (by kernel_rfl) (fun a => by kernel_rfl)

/-! casebook/casebookref02.Ascends -/

def ref02_AscendsR_ : Shp := ⟨[(0, .d true .bool)], []⟩

noncomputable abbrev ref02_AscendsX : Ctx (Bool) := ⟨20, tt, false, [], gam [], lam [loopSumm (Bool) 20 [] ref02_AscendsL0I (C := (List ByteArray)) (S := Int) (fun (x : (((List ByteArray) × Int × Unit) × (Unit))) => (x.1.1, x.1.2.1)) ref02_AscendsL0E (CE := Unit) (E := Unit) (fun (c : Unit) (e : Unit) => ((()), (()))) (fun (c : (List ByteArray)) => ()) (fun {R} c a nx dn rt => ref02_AscendsL0K c a nx dn rt)], resU 20 tt [] [.tmp 2] ref02_AscendsR_ (fun (x : ((Bool × Unit) × (Unit))) => x.1.1)⟩

theorem ref02_AscendsG : CtxOK Try.prog ref02_AscendsX := ⟨fits, gam_ok (AllM.all (l := []) trivial)⟩

theorem ref02_AscendsS0 : SummOK Try.prog ref02_AscendsX 0 (.block 0 (.loop (subC (bodyOf Try.f94) [true, false, true, false, false]))) :=
  loop_ok (shI := ref02_AscendsL0I) (shE := ref02_AscendsL0E) (C := (List ByteArray)) (S := Int) (CE := Unit) (E := Unit) (ref02_AscendsG) mixed (ann := (.two .z (.two (.one (.two (.d [0, 0, 2, 7, 15, 0, 0, 96, 224, 511] [] []) .z)) .z))) (AllS.all (l := []) (by kernel_rfl) trivial) (mk := (fun (c : (List ByteArray)) (a : Int) => ((c, a, ()), (())))) (unE := (fun (y : ((Unit) × (Unit))) => ((), ()))) rfl (fun _ => rfl) (fun _ => rfl) (fun R K D T c a => by kernel_rfl)

noncomputable abbrev ref02_AscendsM : Mdl := (mdlOf (.cons (.d false (.slice .str)) .nil) [] [] 1 ref02_AscendsR_ (fun (b : Bool) => ((b, ()), (()))) (fun (a : (((List ByteArray) × Unit) × (Unit))) => ref02_Ascends a.1.1))

theorem ref02_Ascends_ok : MdlOK Try.prog 94 ref02_AscendsM :=
  fn_ok (c := (bodyOf Try.f94)) Try.func94 (by rfl) (by kernel_rfl) (X := ref02_AscendsX) (by kernel_rfl) (rs := [.tmp 2]) (by kernel_rfl) (sh := ref02_AscendsR_) (un := (fun (x : ((Bool × Unit) × (Unit))) => x.1.1)) (mk := (fun (b : Bool) => ((b, ()), (())))) (fun _ => rfl) rfl (ref02_AscendsG) mixed (ann := (.two .z (.two (.two .z (.s 0)) .z))) (AllS.all (l := [(0, .block 0 (.loop (subC (bodyOf Try.f94) [true, false, true, false, false])))]) (by kernel_rfl) ⟨ref02_AscendsS0, trivial⟩) (Nat.le_of_ble_eq_true (by kernel_rfl)) (by kernel_rfl) (fun a => by kernel_rfl)

/-! casebook/casebookref02.Alphabet -/

def ref02_AlphabetR_ : Shp := ⟨[(0, .d true .bool)], []⟩

noncomputable abbrev ref02_AlphabetX : Ctx (Bool) := ⟨14, tt, false, [], gam [(84, ref02_NamesM), (94, ref02_AscendsM)], lam [], resU 14 tt [] [.tmp 2] ref02_AlphabetR_ (fun (x : ((Bool × Unit) × (Unit))) => x.1.1)⟩

theorem ref02_AlphabetG : CtxOK Try.prog ref02_AlphabetX := ⟨fits, gam_ok (AllM.all (l := [(84, ref02_NamesM), (94, ref02_AscendsM)]) ⟨ref02_Names_ok, ref02_Ascends_ok, trivial⟩)⟩

noncomputable abbrev ref02_AlphabetM : Mdl := (mdlOf (.cons (.d false (.slice .str)) .nil) [] [] 1 ref02_AlphabetR_ (fun (b : Bool) => ((b, ()), (()))) (fun (a : (((List ByteArray) × Unit) × (Unit))) => ref02_Alphabet a.1.1))

theorem ref02_Alphabet_ok : MdlOK Try.prog 67 ref02_AlphabetM :=
  fn_ok (c := (bodyOf Try.f67)) Try.func67 (by rfl) (by kernel_rfl) (X := ref02_AlphabetX) (by kernel_rfl) (rs := [.tmp 2]) (by kernel_rfl) (sh := ref02_AlphabetR_) (un := (fun (x : ((Bool × Unit) × (Unit))) => x.1.1)) (mk := (fun (b : Bool) => ((b, ()), (())))) (fun _ => rfl) rfl (ref02_AlphabetG) mixed (ann := .z) (AllS.all (l := []) (by kernel_rfl) trivial) (Nat.le_of_ble_eq_true (by kernel_rfl)) (by kernel_rfl) (fun a => by kernel_rfl)

/-! casebook/casebookref46.Person -/

def ref46_PersonR_ : Shp := ⟨[(0, .d true (.int .i64))], []⟩

noncomputable abbrev ref46_PersonX : Ctx (Int) := ⟨22, tt, false, [], gam [], lam [loopSumm (Int) 22 [] ref46_PersonL0I (C := (ByteArray × (List Person) × (List Delegation) × (List Duty))) (S := Int) (fun (x : ((ByteArray × Unit × Int × Unit) × (((List Person) × (List Delegation) × (List Duty) × Unit) × Unit))) => ((x.1.1, x.2.1.1, x.2.1.2.1, x.2.1.2.2.1), x.1.2.2.1)) ref46_PersonL0E (CE := Unit) (E := Unit) (fun (c : Unit) (e : Unit) => ((()), (()))) (fun (c : (ByteArray × (List Person) × (List Delegation) × (List Duty))) => ()) (fun {R} c a nx dn rt => ref46_PersonL0K c.1 c.2.1 c.2.2.1 c.2.2.2 a nx dn rt)], resU 22 tt [] [.tmp 4] ref46_PersonR_ (fun (x : ((Int × Unit) × (Unit))) => x.1.1)⟩

theorem ref46_PersonG : CtxOK Try.prog ref46_PersonX := ⟨fits, gam_ok (AllM.all (l := []) trivial)⟩

theorem ref46_PersonS0 : SummOK Try.prog ref46_PersonX 0 (.block 0 (.loop (subC (bodyOf Try.f50) [true, false, true, false, false]))) :=
  loop_ok (shI := ref46_PersonL0I) (shE := ref46_PersonL0E) (C := (ByteArray × (List Person) × (List Delegation) × (List Duty))) (S := Int) (CE := Unit) (E := Unit) (ref46_PersonG) mixed (ann := .z) (AllS.all (l := []) (by kernel_rfl) trivial) (mk := (fun (c : (ByteArray × (List Person) × (List Delegation) × (List Duty))) (a : Int) => ((c.1, (), a, ()), ((c.2.1, c.2.2.1, c.2.2.2, ()), ())))) (unE := (fun (y : ((Unit) × (Unit))) => ((), ()))) rfl (fun _ => rfl) (fun _ => rfl) (fun R K D T c a => by kernel_rfl)

noncomputable abbrev ref46_PersonM : Mdl := (mdlOf (.cons (.d false Org.ty) (.cons (.d false .str) .nil)) [] [] 1 ref46_PersonR_ (fun (b : Int) => ((b, ()), (()))) (fun (a : ((Org × ByteArray × Unit) × (Unit))) => ref46_Person a.1.1 a.1.2.1))

theorem ref46_Person_ok : MdlOK Try.prog 50 ref46_PersonM :=
  fn_ok (c := (bodyOf Try.f50)) Try.func50 (by rfl) (by kernel_rfl) (X := ref46_PersonX) (by kernel_rfl) (rs := [.tmp 4]) (by kernel_rfl) (sh := ref46_PersonR_) (un := (fun (x : ((Int × Unit) × (Unit))) => x.1.1)) (mk := (fun (b : Int) => ((b, ()), (())))) (fun _ => rfl) rfl (ref46_PersonG) mixed (ann := (.two .z (.two (.two .z (.s 0)) .z))) (AllS.all (l := [(0, .block 0 (.loop (subC (bodyOf Try.f50) [true, false, true, false, false])))]) (by kernel_rfl) ⟨ref46_PersonS0, trivial⟩) (Nat.le_of_ble_eq_true (by kernel_rfl)) (by kernel_rfl) (fun a => by kernel_rfl)

/-! casebook/casebookref03.ValidSpan -/

def ref03_ValidSpanR_ : Shp := ⟨[(0, .d true .bool)], []⟩

noncomputable abbrev ref03_ValidSpanX : Ctx (Bool) := ⟨18, tt, false, [], gam [], lam [], resU 18 tt [] [.tmp 2] ref03_ValidSpanR_ (fun (x : ((Bool × Unit) × (Unit))) => x.1.1)⟩

theorem ref03_ValidSpanG : CtxOK Try.prog ref03_ValidSpanX := ⟨fits, gam_ok (AllM.all (l := []) trivial)⟩

noncomputable abbrev ref03_ValidSpanM : Mdl := (mdlOf (.cons (.d false Span.ty) .nil) [] [] 1 ref03_ValidSpanR_ (fun (b : Bool) => ((b, ()), (()))) (fun (a : ((Span × Unit) × (Unit))) => ref03_ValidSpan a.1.1))

theorem ref03_ValidSpan_ok : MdlOK Try.prog 68 ref03_ValidSpanM :=
  fn_ok (c := (bodyOf Try.f68)) Try.func68 (by rfl) (by kernel_rfl) (X := ref03_ValidSpanX) (by kernel_rfl) (rs := [.tmp 2]) (by kernel_rfl) (sh := ref03_ValidSpanR_) (un := (fun (x : ((Bool × Unit) × (Unit))) => x.1.1)) (mk := (fun (b : Bool) => ((b, ()), (())))) (fun _ => rfl) rfl (ref03_ValidSpanG) mixed (ann := .z) (AllS.all (l := []) (by kernel_rfl) trivial) (Nat.le_of_ble_eq_true (by kernel_rfl)) (by kernel_rfl) (fun a => by kernel_rfl)

/-! casebook/casebookref46.Valid -/

def ref46_ValidR_ : Shp := ⟨[(0, .d true .bool)], []⟩

noncomputable abbrev ref46_ValidX : Ctx (Bool) := ⟨138, tt, false, [], gam [(24, ref02_IsNameM), (67, ref02_AlphabetM), (50, ref46_PersonM), (68, ref03_ValidSpanM)], lam [loopSumm (Bool) 138 [] ref46_ValidL0I (C := ((List Person) × (List Delegation) × (List Duty))) (S := Int) (fun (x : ((Unit × Int × Unit) × (((List Person) × (List Delegation) × (List Duty) × Unit) × Unit))) => ((x.2.1.1, x.2.1.2.1, x.2.1.2.2.1), x.1.2.1)) ref46_ValidL0E (CE := ((List Person) × (List Delegation) × (List Duty))) (E := Unit) (fun (c : ((List Person) × (List Delegation) × (List Duty))) (e : Unit) => (((), ()), ((c.1, c.2.1, c.2.2, ()), ()))) (fun (c : ((List Person) × (List Delegation) × (List Duty))) => (c.1, c.2.1, c.2.2)) (fun {R} c a nx dn rt => ref46_ValidL0K c.1 c.2.1 c.2.2 a nx dn rt),
  loopSumm (Bool) 138 [] ref46_ValidL1I (C := ((List Person) × (List Delegation) × (List Duty))) (S := Int) (fun (x : ((Unit × Int × Unit) × (((List Person) × (List Delegation) × (List Duty) × Unit) × Unit))) => ((x.2.1.1, x.2.1.2.1, x.2.1.2.2.1), x.1.2.1)) ref46_ValidL1E (CE := ((List Person) × (List Delegation) × (List Duty))) (E := Unit) (fun (c : ((List Person) × (List Delegation) × (List Duty))) (e : Unit) => (((), ()), ((c.1, c.2.1, c.2.2, ()), ()))) (fun (c : ((List Person) × (List Delegation) × (List Duty))) => (c.1, c.2.1, c.2.2)) (fun {R} c a nx dn rt => ref46_ValidL1K c.1 c.2.1 c.2.2 a nx dn rt),
  loopSumm (Bool) 138 [] ref46_ValidL2I (C := ((List Person) × (List Delegation) × (List Duty))) (S := Int) (fun (x : ((Unit × Int × Unit) × (((List Person) × (List Delegation) × (List Duty) × Unit) × Unit))) => ((x.2.1.1, x.2.1.2.1, x.2.1.2.2.1), x.1.2.1)) ref46_ValidL2E (CE := Unit) (E := Unit) (fun (c : Unit) (e : Unit) => ((()), (()))) (fun (c : ((List Person) × (List Delegation) × (List Duty))) => ()) (fun {R} c a nx dn rt => ref46_ValidL2K c.1 c.2.1 c.2.2 a nx dn rt)], resU 138 tt [] [.tmp 2] ref46_ValidR_ (fun (x : ((Bool × Unit) × (Unit))) => x.1.1)⟩

theorem ref46_ValidG : CtxOK Try.prog ref46_ValidX := ⟨fits, gam_ok (AllM.all (l := [(24, ref02_IsNameM), (67, ref02_AlphabetM), (50, ref46_PersonM), (68, ref03_ValidSpanM)]) ⟨ref02_IsName_ok, ref02_Alphabet_ok, ref46_Person_ok, ref03_ValidSpan_ok, trivial⟩)⟩

theorem ref46_ValidS2 : SummOK Try.prog ref46_ValidX 2 (.block 4 (.loop (subC (bodyOf Try.f23) [true, true, true, true, false, true, false, false]))) :=
  loop_ok (shI := ref46_ValidL2I) (shE := ref46_ValidL2E) (C := ((List Person) × (List Delegation) × (List Duty))) (S := Int) (CE := Unit) (E := Unit) (ref46_ValidG) mixed (ann := .z) (AllS.all (l := []) (by kernel_rfl) trivial) (mk := (fun (c : ((List Person) × (List Delegation) × (List Duty))) (a : Int) => (((), a, ()), ((c.1, c.2.1, c.2.2, ()), ())))) (unE := (fun (y : ((Unit) × (Unit))) => ((), ()))) rfl (fun _ => rfl) (fun _ => rfl) (fun R K D T c a => by kernel_rfl)

theorem ref46_ValidS1 : SummOK Try.prog ref46_ValidX 1 (.block 2 (.loop (subC (bodyOf Try.f23) [true, true, true, false, true, false, false]))) :=
  loop_ok (shI := ref46_ValidL1I) (shE := ref46_ValidL1E) (C := ((List Person) × (List Delegation) × (List Duty))) (S := Int) (CE := ((List Person) × (List Delegation) × (List Duty))) (E := Unit) (ref46_ValidG) mixed (ann := .z) (AllS.all (l := []) (by kernel_rfl) trivial) (mk := (fun (c : ((List Person) × (List Delegation) × (List Duty))) (a : Int) => (((), a, ()), ((c.1, c.2.1, c.2.2, ()), ())))) (unE := (fun (y : ((Unit × Unit) × (((List Person) × (List Delegation) × (List Duty) × Unit) × Unit))) => ((y.2.1.1, y.2.1.2.1, y.2.1.2.2.1), ()))) rfl (fun _ => rfl) (fun _ => rfl) (fun R K D T c a => by kernel_rfl)

theorem ref46_ValidS0 : SummOK Try.prog ref46_ValidX 0 (.block 0 (.loop (subC (bodyOf Try.f23) [true, true, false, true, false, false]))) :=
  loop_ok (shI := ref46_ValidL0I) (shE := ref46_ValidL0E) (C := ((List Person) × (List Delegation) × (List Duty))) (S := Int) (CE := ((List Person) × (List Delegation) × (List Duty))) (E := Unit) (ref46_ValidG) mixed (ann := (.two .z (.two (.one (.two .z (.two (.d [0, 1, 3, 7, 15, 31, 63, 127, 255, 511, 255, 1279, 4095, 8191, 16383, 255, 33023, 131071, 262143, 524287, 1048575, 2097151, 4194303, 8388607, 16777215, 33554431] [] []) .z))) .z))) (AllS.all (l := []) (by kernel_rfl) trivial) (mk := (fun (c : ((List Person) × (List Delegation) × (List Duty))) (a : Int) => (((), a, ()), ((c.1, c.2.1, c.2.2, ()), ())))) (unE := (fun (y : ((Unit × Unit) × (((List Person) × (List Delegation) × (List Duty) × Unit) × Unit))) => ((y.2.1.1, y.2.1.2.1, y.2.1.2.2.1), ()))) rfl (fun _ => rfl) (fun _ => rfl) (fun R K D T c a => by kernel_rfl)

noncomputable abbrev ref46_ValidM : Mdl := (mdlOf (.cons (.d false Org.ty) .nil) [] [] 1 ref46_ValidR_ (fun (b : Bool) => ((b, ()), (()))) (fun (a : ((Org × Unit) × (Unit))) => ref46_Valid a.1.1))

theorem ref46_Valid_ok : MdlOK Try.prog 23 ref46_ValidM :=
  fn_ok (c := (bodyOf Try.f23)) Try.func23 (by rfl) (by kernel_rfl) (X := ref46_ValidX) (by kernel_rfl) (rs := [.tmp 2]) (by kernel_rfl) (sh := ref46_ValidR_) (un := (fun (x : ((Bool × Unit) × (Unit))) => x.1.1)) (mk := (fun (b : Bool) => ((b, ()), (())))) (fun _ => rfl) rfl (ref46_ValidG) mixed (ann := (.two .z (.two .z (.two (.two .z (.s 0)) (.two (.two .z (.s 1)) (.two (.two .z (.s 2)) .z)))))) (AllS.all (l := [(0, .block 0 (.loop (subC (bodyOf Try.f23) [true, true, false, true, false, false]))), (1, .block 2 (.loop (subC (bodyOf Try.f23) [true, true, true, false, true, false, false]))), (2, .block 4 (.loop (subC (bodyOf Try.f23) [true, true, true, true, false, true, false, false])))]) (by kernel_rfl) ⟨ref46_ValidS0, ref46_ValidS1, ref46_ValidS2, trivial⟩) (Nat.le_of_ble_eq_true (by kernel_rfl)) (by kernel_rfl) (fun a => by kernel_rfl)

/-! casebook/casebookref46.instant -/

def ref46_instantR_ : Shp := ⟨[(0, .d true .bool)], []⟩

noncomputable abbrev ref46_instantX : Ctx (Bool) := ⟨9, tt, false, [], gam [], lam [], resU 9 tt [] [.tmp 2] ref46_instantR_ (fun (x : ((Bool × Unit) × (Unit))) => x.1.1)⟩

theorem ref46_instantG : CtxOK Try.prog ref46_instantX := ⟨fits, gam_ok (AllM.all (l := []) trivial)⟩

noncomputable abbrev ref46_instantM : Mdl := (mdlOf (.cons (.d false (.int .i64)) .nil) [] [] 1 ref46_instantR_ (fun (b : Bool) => ((b, ()), (()))) (fun (a : ((Int × Unit) × (Unit))) => ref46_instant a.1.1))

theorem ref46_instant_ok : MdlOK Try.prog 56 ref46_instantM :=
  fn_ok (c := (bodyOf Try.f56)) Try.func56 (by rfl) (by kernel_rfl) (X := ref46_instantX) (by kernel_rfl) (rs := [.tmp 2]) (by kernel_rfl) (sh := ref46_instantR_) (un := (fun (x : ((Bool × Unit) × (Unit))) => x.1.1)) (mk := (fun (b : Bool) => ((b, ()), (())))) (fun _ => rfl) rfl (ref46_instantG) mixed (ann := .z) (AllS.all (l := []) (by kernel_rfl) trivial) (Nat.le_of_ble_eq_true (by kernel_rfl)) (by kernel_rfl) (fun a => by kernel_rfl)

/-! casebook/casebookref46.past -/

def ref46_pastR_ : Shp := ⟨[(0, .d true (.int .i64))], []⟩

noncomputable abbrev ref46_pastX : Ctx (Int) := ⟨32, tt, false, [], gam [(24, ref02_IsNameM), (50, ref46_PersonM)], lam [loopSumm (Int) 32 [] ref46_pastL0I (C := ((List Task) × (List Person) × (List Delegation) × (List Duty))) (S := Int) (fun (x : (((List Task) × Unit × Int × Unit) × (((List Person) × (List Delegation) × (List Duty) × Unit) × Unit))) => ((x.1.1, x.2.1.1, x.2.1.2.1, x.2.1.2.2.1), x.1.2.2.1)) ref46_pastL0E (CE := Unit) (E := Unit) (fun (c : Unit) (e : Unit) => ((()), (()))) (fun (c : ((List Task) × (List Person) × (List Delegation) × (List Duty))) => ()) (fun {R} c a nx dn rt => ref46_pastL0K c.1 c.2.1 c.2.2.1 c.2.2.2 a nx dn rt)], resU 32 tt [] [.tmp 4] ref46_pastR_ (fun (x : ((Int × Unit) × (Unit))) => x.1.1)⟩

theorem ref46_pastG : CtxOK Try.prog ref46_pastX := ⟨fits, gam_ok (AllM.all (l := [(24, ref02_IsNameM), (50, ref46_PersonM)]) ⟨ref02_IsName_ok, ref46_Person_ok, trivial⟩)⟩

theorem ref46_pastS0 : SummOK Try.prog ref46_pastX 0 (.block 0 (.loop (subC (bodyOf Try.f60) [true, true, false, true, false, false]))) :=
  loop_ok (shI := ref46_pastL0I) (shE := ref46_pastL0E) (C := ((List Task) × (List Person) × (List Delegation) × (List Duty))) (S := Int) (CE := Unit) (E := Unit) (ref46_pastG) mixed (ann := (.two .z (.two (.one (.two (.d [0, 0, 3, 7, 15, 31, 63, 127, 255, 255, 255, 1791, 3839, 7935, 16383, 32767, 65535] [] []) .z)) .z))) (AllS.all (l := []) (by kernel_rfl) trivial) (mk := (fun (c : ((List Task) × (List Person) × (List Delegation) × (List Duty))) (a : Int) => ((c.1, (), a, ()), ((c.2.1, c.2.2.1, c.2.2.2, ()), ())))) (unE := (fun (y : ((Unit) × (Unit))) => ((), ()))) rfl (fun _ => rfl) (fun _ => rfl) (fun R K D T c a => by kernel_rfl)

noncomputable abbrev ref46_pastM : Mdl := (mdlOf (.cons (.d false Org.ty) (.cons (.d false (.slice Task.ty)) .nil)) [] [] 1 ref46_pastR_ (fun (b : Int) => ((b, ()), (()))) (fun (a : ((Org × (List Task) × Unit) × (Unit))) => ref46_past a.1.1 a.1.2.1))

theorem ref46_past_ok : MdlOK Try.prog 60 ref46_pastM :=
  fn_ok (c := (bodyOf Try.f60)) Try.func60 (by rfl) (by kernel_rfl) (X := ref46_pastX) (by kernel_rfl) (rs := [.tmp 4]) (by kernel_rfl) (sh := ref46_pastR_) (un := (fun (x : ((Int × Unit) × (Unit))) => x.1.1)) (mk := (fun (b : Int) => ((b, ()), (())))) (fun _ => rfl) rfl (ref46_pastG) mixed (ann := (.two .z (.two .z (.two (.two .z (.s 0)) .z)))) (AllS.all (l := [(0, .block 0 (.loop (subC (bodyOf Try.f60) [true, true, false, true, false, false])))]) (by kernel_rfl) ⟨ref46_pastS0, trivial⟩) (Nat.le_of_ble_eq_true (by kernel_rfl)) (by kernel_rfl) (fun a => by kernel_rfl)

/-! casebook/casebookref46.fault -/

def ref46_faultR_ : Shp := ⟨[(0, .d true (.int .i64))], []⟩

noncomputable abbrev ref46_faultX : Ctx (Int) := ⟨42, tt, false, [], gam [(23, ref46_ValidM), (84, ref02_NamesM), (56, ref46_instantM), (60, ref46_pastM)], lam [], resU 42 tt [] [.tmp 10] ref46_faultR_ (fun (x : ((Int × Unit) × (Unit))) => x.1.1)⟩

theorem ref46_faultG : CtxOK Try.prog ref46_faultX := ⟨fits, gam_ok (AllM.all (l := [(23, ref46_ValidM), (84, ref02_NamesM), (56, ref46_instantM), (60, ref46_pastM)]) ⟨ref46_Valid_ok, ref02_Names_ok, ref46_instant_ok, ref46_past_ok, trivial⟩)⟩

noncomputable abbrev ref46_faultM : Mdl := (mdlOf (.cons (.d false Org.ty) (.cons (.d false (.slice .str)) (.cons (.d false (.slice .str)) (.cons (.d false (.int .i64)) (.cons (.d false (.slice Task.ty)) .nil))))) [] [] 1 ref46_faultR_ (fun (b : Int) => ((b, ()), (()))) (fun (a : ((Org × (List ByteArray) × (List ByteArray) × Int × (List Task) × Unit) × (Unit))) => ref46_fault a.1.1 a.1.2.1 a.1.2.2.1 a.1.2.2.2.1 a.1.2.2.2.2.1))

theorem ref46_fault_ok : MdlOK Try.prog 49 ref46_faultM :=
  fn_ok (c := (bodyOf Try.f49)) Try.func49 (by rfl) (by kernel_rfl) (X := ref46_faultX) (by kernel_rfl) (rs := [.tmp 10]) (by kernel_rfl) (sh := ref46_faultR_) (un := (fun (x : ((Int × Unit) × (Unit))) => x.1.1)) (mk := (fun (b : Int) => ((b, ()), (())))) (fun _ => rfl) rfl (ref46_faultG) mixed (ann := .z) (AllS.all (l := []) (by kernel_rfl) trivial) (Nat.le_of_ble_eq_true (by kernel_rfl)) (by kernel_rfl) (fun a => by kernel_rfl)

/-! casebook/casebookref02.Index -/

def ref02_IndexR_ : Shp := ⟨[(0, .d true (.int .i64))], []⟩

noncomputable abbrev ref02_IndexX : Ctx (Int) := ⟨19, tt, false, [], gam [], lam [loopSumm (Int) 19 [] ref02_IndexL0I (C := ((List ByteArray) × ByteArray)) (S := Int) (fun (x : (((List ByteArray) × ByteArray × Int × Unit) × (Unit))) => ((x.1.1, x.1.2.1), x.1.2.2.1)) ref02_IndexL0E (CE := Unit) (E := Unit) (fun (c : Unit) (e : Unit) => ((()), (()))) (fun (c : ((List ByteArray) × ByteArray)) => ()) (fun {R} c a nx dn rt => ref02_IndexL0K c.1 c.2 a nx dn rt)], resU 19 tt [] [.tmp 4] ref02_IndexR_ (fun (x : ((Int × Unit) × (Unit))) => x.1.1)⟩

theorem ref02_IndexG : CtxOK Try.prog ref02_IndexX := ⟨fits, gam_ok (AllM.all (l := []) trivial)⟩

theorem ref02_IndexS0 : SummOK Try.prog ref02_IndexX 0 (.block 0 (.loop (subC (bodyOf Try.f51) [true, false, true, false, false]))) :=
  loop_ok (shI := ref02_IndexL0I) (shE := ref02_IndexL0E) (C := ((List ByteArray) × ByteArray)) (S := Int) (CE := Unit) (E := Unit) (ref02_IndexG) mixed (ann := .z) (AllS.all (l := []) (by kernel_rfl) trivial) (mk := (fun (c : ((List ByteArray) × ByteArray)) (a : Int) => ((c.1, c.2, a, ()), (())))) (unE := (fun (y : ((Unit) × (Unit))) => ((), ()))) rfl (fun _ => rfl) (fun _ => rfl) (fun R K D T c a => by kernel_rfl)

noncomputable abbrev ref02_IndexM : Mdl := (mdlOf (.cons (.d false (.slice .str)) (.cons (.d false .str) .nil)) [] [] 1 ref02_IndexR_ (fun (b : Int) => ((b, ()), (()))) (fun (a : (((List ByteArray) × ByteArray × Unit) × (Unit))) => ref02_Index a.1.1 a.1.2.1))

theorem ref02_Index_ok : MdlOK Try.prog 51 ref02_IndexM :=
  fn_ok (c := (bodyOf Try.f51)) Try.func51 (by rfl) (by kernel_rfl) (X := ref02_IndexX) (by kernel_rfl) (rs := [.tmp 4]) (by kernel_rfl) (sh := ref02_IndexR_) (un := (fun (x : ((Int × Unit) × (Unit))) => x.1.1)) (mk := (fun (b : Int) => ((b, ()), (())))) (fun _ => rfl) rfl (ref02_IndexG) mixed (ann := (.two .z (.two (.two .z (.s 0)) .z))) (AllS.all (l := [(0, .block 0 (.loop (subC (bodyOf Try.f51) [true, false, true, false, false])))]) (by kernel_rfl) ⟨ref02_IndexS0, trivial⟩) (Nat.le_of_ble_eq_true (by kernel_rfl)) (by kernel_rfl) (fun a => by kernel_rfl)

/-! casebook/casebookref46.has -/

def ref46_hasR_ : Shp := ⟨[(0, .d true .bool)], []⟩

noncomputable abbrev ref46_hasX : Ctx (Bool) := ⟨72, tt, false, [], gam [(50, ref46_PersonM), (51, ref02_IndexM)], lam [loopSumm (Bool) 72 [] ref46_hasL0I (C := (ByteArray × ByteArray × Int × (List Person) × (List Delegation) × (List Duty))) (S := Int) (fun (x : ((ByteArray × ByteArray × Int × Unit × Int × Unit) × (((List Person) × (List Delegation) × (List Duty) × Unit) × Unit))) => ((x.1.1, x.1.2.1, x.1.2.2.1, x.2.1.1, x.2.1.2.1, x.2.1.2.2.1), x.1.2.2.2.2.1)) ref46_hasL0E (CE := Unit) (E := Unit) (fun (c : Unit) (e : Unit) => ((()), (()))) (fun (c : (ByteArray × ByteArray × Int × (List Person) × (List Delegation) × (List Duty))) => ()) (fun {R} c a nx dn rt => ref46_hasL0K c.1 c.2.1 c.2.2.1 c.2.2.2.1 c.2.2.2.2.1 c.2.2.2.2.2 a nx dn rt)], resU 72 tt [] [.tmp 8] ref46_hasR_ (fun (x : ((Bool × Unit) × (Unit))) => x.1.1)⟩

theorem ref46_hasG : CtxOK Try.prog ref46_hasX := ⟨fits, gam_ok (AllM.all (l := [(50, ref46_PersonM), (51, ref02_IndexM)]) ⟨ref46_Person_ok, ref02_Index_ok, trivial⟩)⟩

theorem ref46_hasS0 : SummOK Try.prog ref46_hasX 0 (.block 0 (.loop (subC (bodyOf Try.f57) [true, true, false, true, false, false]))) :=
  loop_ok (shI := ref46_hasL0I) (shE := ref46_hasL0E) (C := (ByteArray × ByteArray × Int × (List Person) × (List Delegation) × (List Duty))) (S := Int) (CE := Unit) (E := Unit) (ref46_hasG) mixed (ann := (.two .z (.two (.one (.two .z (.two (.d [0, 1, 0, 7, 15, 31, 63, 31, 255, 511, 1023, 2047, 4095, 8191, 2047, 32767, 65535, 131071, 262143, 262143, 786431, 1835007, 4194303, 8388607, 16777215, 33554431, 67108863, 33554431, 33554431, 301989887, 973078527, 2147483647, 4294967295, 8589934591, 33554431, 34359738367, 68719476735, 137438953471] [] []) .z))) .z))) (AllS.all (l := []) (by kernel_rfl) trivial) (mk := (fun (c : (ByteArray × ByteArray × Int × (List Person) × (List Delegation) × (List Duty))) (a : Int) => ((c.1, c.2.1, c.2.2.1, (), a, ()), ((c.2.2.2.1, c.2.2.2.2.1, c.2.2.2.2.2, ()), ())))) (unE := (fun (y : ((Unit) × (Unit))) => ((), ()))) rfl (fun _ => rfl) (fun _ => rfl) (fun R K D T c a => by kernel_rfl)

noncomputable abbrev ref46_hasM : Mdl := (mdlOf (.cons (.d false Org.ty) (.cons (.d false .str) (.cons (.d false .str) (.cons (.d false (.int .i64)) .nil)))) [] [] 1 ref46_hasR_ (fun (b : Bool) => ((b, ()), (()))) (fun (a : ((Org × ByteArray × ByteArray × Int × Unit) × (Unit))) => ref46_has a.1.1 a.1.2.1 a.1.2.2.1 a.1.2.2.2.1))

theorem ref46_has_ok : MdlOK Try.prog 57 ref46_hasM :=
  fn_ok (c := (bodyOf Try.f57)) Try.func57 (by rfl) (by kernel_rfl) (X := ref46_hasX) (by kernel_rfl) (rs := [.tmp 8]) (by kernel_rfl) (sh := ref46_hasR_) (un := (fun (x : ((Bool × Unit) × (Unit))) => x.1.1)) (mk := (fun (b : Bool) => ((b, ()), (())))) (fun _ => rfl) rfl (ref46_hasG) mixed (ann := (.two .z (.two (.two (.d [0, 1, 0, 0, 12, 31, 63, 127, 0, 511, 1023] [] []) .z) (.two (.two .z (.s 0)) .z)))) (AllS.all (l := [(0, .block 0 (.loop (subC (bodyOf Try.f57) [true, true, false, true, false, false])))]) (by kernel_rfl) ⟨ref46_hasS0, trivial⟩) (Nat.le_of_ble_eq_true (by kernel_rfl)) (by kernel_rfl) (fun a => by kernel_rfl)

/-! casebook/casebookref46.broken -/

def ref46_brokenR_ : Shp := ⟨[(0, .d true (.int .i64))], []⟩

noncomputable abbrev ref46_brokenX : Ctx (Int) := ⟨78, tt, false, [], gam [], lam [joinSumm (Int) 78 [] ref46_brokenT0I (A := (ByteArray × ByteArray × (List Task) × Int × Int × Bool × (List Person) × (List Delegation) × (List Duty) × Int × ByteArray × ByteArray)) (fun (x : ((ByteArray × ByteArray × (List Task) × Unit × Int × Unit × Int × Bool × Unit) × (((List Person) × (List Delegation) × (List Duty) × Unit) × (Int × ByteArray × ByteArray × Unit) × Unit))) => (x.1.1, x.1.2.1, x.1.2.2.1, x.1.2.2.2.2.1, x.1.2.2.2.2.2.2.1, x.1.2.2.2.2.2.2.2.1, x.2.1.1, x.2.1.2.1, x.2.1.2.2.1, x.2.2.1.1, x.2.2.1.2.1, x.2.2.1.2.2.1)) ref46_brokenT0E (CE := (ByteArray × ByteArray × (List Task) × Int × Int × (List Person) × (List Delegation) × (List Duty) × Int × ByteArray × ByteArray)) (E := Unit) (fun (c : (ByteArray × ByteArray × (List Task) × Int × Int × (List Person) × (List Delegation) × (List Duty) × Int × ByteArray × ByteArray)) (e : Unit) => ((c.1, c.2.1, c.2.2.1, (), c.2.2.2.1, (), c.2.2.2.2.1, ()), ((c.2.2.2.2.2.1, c.2.2.2.2.2.2.1, c.2.2.2.2.2.2.2.1, ()), (c.2.2.2.2.2.2.2.2.1, c.2.2.2.2.2.2.2.2.2.1, c.2.2.2.2.2.2.2.2.2.2, ()), ()))) (fun (c : (ByteArray × ByteArray × (List Task) × Int × Int × Bool × (List Person) × (List Delegation) × (List Duty) × Int × ByteArray × ByteArray)) => (c.1, c.2.1, c.2.2.1, c.2.2.2.1, c.2.2.2.2.1, c.2.2.2.2.2.2.1, c.2.2.2.2.2.2.2.1, c.2.2.2.2.2.2.2.2.1, c.2.2.2.2.2.2.2.2.2.1, c.2.2.2.2.2.2.2.2.2.2.1, c.2.2.2.2.2.2.2.2.2.2.2)) (fun {R} c dn rt => ref46_brokenT0K c.1 c.2.1 c.2.2.1 c.2.2.2.1 c.2.2.2.2.1 c.2.2.2.2.2.1 c.2.2.2.2.2.2.1 c.2.2.2.2.2.2.2.1 c.2.2.2.2.2.2.2.2.1 c.2.2.2.2.2.2.2.2.2.1 c.2.2.2.2.2.2.2.2.2.2.1 c.2.2.2.2.2.2.2.2.2.2.2 dn rt),
  loopSumm (Int) 78 [] ref46_brokenL1I (C := (ByteArray × ByteArray × (List Task) × Int × (List Person) × (List Delegation) × (List Duty) × Int × ByteArray × ByteArray)) (S := Int) (fun (x : ((ByteArray × ByteArray × (List Task) × Unit × Int × Unit × Int × Unit) × (((List Person) × (List Delegation) × (List Duty) × Unit) × (Int × ByteArray × ByteArray × Unit) × Unit))) => ((x.1.1, x.1.2.1, x.1.2.2.1, x.1.2.2.2.2.1, x.2.1.1, x.2.1.2.1, x.2.1.2.2.1, x.2.2.1.1, x.2.2.1.2.1, x.2.2.1.2.2.1), x.1.2.2.2.2.2.2.1)) ref46_brokenL1E (CE := (ByteArray × ByteArray × (List Task) × Int × (List Person) × (List Delegation) × (List Duty))) (E := Unit) (fun (c : (ByteArray × ByteArray × (List Task) × Int × (List Person) × (List Delegation) × (List Duty))) (e : Unit) => ((c.1, c.2.1, c.2.2.1, (), c.2.2.2.1, ()), ((c.2.2.2.2.1, c.2.2.2.2.2.1, c.2.2.2.2.2.2, ()), ()))) (fun (c : (ByteArray × ByteArray × (List Task) × Int × (List Person) × (List Delegation) × (List Duty) × Int × ByteArray × ByteArray)) => (c.1, c.2.1, c.2.2.1, c.2.2.2.1, c.2.2.2.2.1, c.2.2.2.2.2.1, c.2.2.2.2.2.2.1)) (fun {R} c a nx dn rt => ref46_brokenL1K c.1 c.2.1 c.2.2.1 c.2.2.2.1 c.2.2.2.2.1 c.2.2.2.2.2.1 c.2.2.2.2.2.2.1 c.2.2.2.2.2.2.2.1 c.2.2.2.2.2.2.2.2.1 c.2.2.2.2.2.2.2.2.2 a nx dn rt),
  loopSumm (Int) 78 [] ref46_brokenL2I (C := (ByteArray × ByteArray × (List Task) × (List Person) × (List Delegation) × (List Duty))) (S := Int) (fun (x : ((ByteArray × ByteArray × (List Task) × Unit × Int × Unit) × (((List Person) × (List Delegation) × (List Duty) × Unit) × Unit))) => ((x.1.1, x.1.2.1, x.1.2.2.1, x.2.1.1, x.2.1.2.1, x.2.1.2.2.1), x.1.2.2.2.2.1)) ref46_brokenL2E (CE := Unit) (E := Unit) (fun (c : Unit) (e : Unit) => ((()), (()))) (fun (c : (ByteArray × ByteArray × (List Task) × (List Person) × (List Delegation) × (List Duty))) => ()) (fun {R} c a nx dn rt => ref46_brokenL2K c.1 c.2.1 c.2.2.1 c.2.2.2.1 c.2.2.2.2.1 c.2.2.2.2.2 a nx dn rt)], resU 78 tt [] [.tmp 8] ref46_brokenR_ (fun (x : ((Int × Unit) × (Unit))) => x.1.1)⟩

theorem ref46_brokenG : CtxOK Try.prog ref46_brokenX := ⟨fits, gam_ok (AllM.all (l := []) trivial)⟩

theorem ref46_brokenS0 : SummOK Try.prog ref46_brokenX 0 (subC (bodyOf Try.f61) [true, false, true, false, false, true, false, false, true, true, false, false, true, false, false, true]) :=
  join_ok (shI := ref46_brokenT0I) (shE := ref46_brokenT0E) (A := (ByteArray × ByteArray × (List Task) × Int × Int × Bool × (List Person) × (List Delegation) × (List Duty) × Int × ByteArray × ByteArray)) (CE := (ByteArray × ByteArray × (List Task) × Int × Int × (List Person) × (List Delegation) × (List Duty) × Int × ByteArray × ByteArray)) (E := Unit) (ref46_brokenG) mixed (ann := .z) (AllS.all (l := []) (by kernel_rfl) trivial) (mk := (fun (c : (ByteArray × ByteArray × (List Task) × Int × Int × Bool × (List Person) × (List Delegation) × (List Duty) × Int × ByteArray × ByteArray)) => ((c.1, c.2.1, c.2.2.1, (), c.2.2.2.1, (), c.2.2.2.2.1, c.2.2.2.2.2.1, ()), ((c.2.2.2.2.2.2.1, c.2.2.2.2.2.2.2.1, c.2.2.2.2.2.2.2.2.1, ()), (c.2.2.2.2.2.2.2.2.2.1, c.2.2.2.2.2.2.2.2.2.2.1, c.2.2.2.2.2.2.2.2.2.2.2, ()), ())))) (unE := (fun (y : ((ByteArray × ByteArray × (List Task) × Unit × Int × Unit × Int × Unit) × (((List Person) × (List Delegation) × (List Duty) × Unit) × (Int × ByteArray × ByteArray × Unit) × Unit))) => ((y.1.1, y.1.2.1, y.1.2.2.1, y.1.2.2.2.2.1, y.1.2.2.2.2.2.2.1, y.2.1.1, y.2.1.2.1, y.2.1.2.2.1, y.2.2.1.1, y.2.2.1.2.1, y.2.2.1.2.2.1), ()))) rfl (fun _ => rfl) (fun _ => rfl) (fun R D T c => by kernel_rfl)

theorem ref46_brokenS1 : SummOK Try.prog ref46_brokenX 1 (.block 2 (.loop (subC (bodyOf Try.f61) [true, false, true, false, false, true, false, false, true, true, false, false]))) :=
  loop_ok (shI := ref46_brokenL1I) (shE := ref46_brokenL1E) (C := (ByteArray × ByteArray × (List Task) × Int × (List Person) × (List Delegation) × (List Duty) × Int × ByteArray × ByteArray)) (S := Int) (CE := (ByteArray × ByteArray × (List Task) × Int × (List Person) × (List Delegation) × (List Duty))) (E := Unit) (ref46_brokenG) mixed (ann := (.two .z (.two (.one (.two (.d [0, 0, 2, 7, 15, 31, 31, 127, 255, 511, 31, 1055, 4095, 8191, 16383, 32767, 32767, 98303, 262143, 524287, 1048575, 1048575, 4194303, 8388607, 16777215, 1048575, 34603007, 134217727, 268435455, 536870911, 1073741823] [] []) (.s 0))) .z))) (AllS.all (l := [(0, subC (bodyOf Try.f61) [true, false, true, false, false, true, false, false, true, true, false, false, true, false, false, true])]) (by kernel_rfl) ⟨ref46_brokenS0, trivial⟩) (mk := (fun (c : (ByteArray × ByteArray × (List Task) × Int × (List Person) × (List Delegation) × (List Duty) × Int × ByteArray × ByteArray)) (a : Int) => ((c.1, c.2.1, c.2.2.1, (), c.2.2.2.1, (), a, ()), ((c.2.2.2.2.1, c.2.2.2.2.2.1, c.2.2.2.2.2.2.1, ()), (c.2.2.2.2.2.2.2.1, c.2.2.2.2.2.2.2.2.1, c.2.2.2.2.2.2.2.2.2, ()), ())))) (unE := (fun (y : ((ByteArray × ByteArray × (List Task) × Unit × Int × Unit) × (((List Person) × (List Delegation) × (List Duty) × Unit) × Unit))) => ((y.1.1, y.1.2.1, y.1.2.2.1, y.1.2.2.2.2.1, y.2.1.1, y.2.1.2.1, y.2.1.2.2.1), ()))) rfl (fun _ => rfl) (fun _ => rfl) (fun R K D T c a => by kernel_rfl)

theorem ref46_brokenS2 : SummOK Try.prog ref46_brokenX 2 (.block 0 (.loop (subC (bodyOf Try.f61) [true, false, true, false, false]))) :=
  loop_ok (shI := ref46_brokenL2I) (shE := ref46_brokenL2E) (C := (ByteArray × ByteArray × (List Task) × (List Person) × (List Delegation) × (List Duty))) (S := Int) (CE := Unit) (E := Unit) (ref46_brokenG) mixed (ann := (.two .z (.two (.one (.two .z (.two .z (.s 1)))) .z))) (AllS.all (l := [(1, .block 2 (.loop (subC (bodyOf Try.f61) [true, false, true, false, false, true, false, false, true, true, false, false])))]) (by kernel_rfl) ⟨ref46_brokenS1, trivial⟩) (mk := (fun (c : (ByteArray × ByteArray × (List Task) × (List Person) × (List Delegation) × (List Duty))) (a : Int) => ((c.1, c.2.1, c.2.2.1, (), a, ()), ((c.2.2.2.1, c.2.2.2.2.1, c.2.2.2.2.2, ()), ())))) (unE := (fun (y : ((Unit) × (Unit))) => ((), ()))) rfl (fun _ => rfl) (fun _ => rfl) (fun R K D T c a => by kernel_rfl)

noncomputable abbrev ref46_brokenM : Mdl := (mdlOf (.cons (.d false Org.ty) (.cons (.d false .str) (.cons (.d false .str) (.cons (.d false (.slice Task.ty)) .nil)))) [] [] 1 ref46_brokenR_ (fun (b : Int) => ((b, ()), (()))) (fun (a : ((Org × ByteArray × ByteArray × (List Task) × Unit) × (Unit))) => ref46_broken a.1.1 a.1.2.1 a.1.2.2.1 a.1.2.2.2.1))

theorem ref46_broken_ok : MdlOK Try.prog 61 ref46_brokenM :=
  fn_ok (c := (bodyOf Try.f61)) Try.func61 (by rfl) (by kernel_rfl) (X := ref46_brokenX) (by kernel_rfl) (rs := [.tmp 8]) (by kernel_rfl) (sh := ref46_brokenR_) (un := (fun (x : ((Int × Unit) × (Unit))) => x.1.1)) (mk := (fun (b : Int) => ((b, ()), (())))) (fun _ => rfl) rfl (ref46_brokenG) mixed (ann := (.two .z (.two (.two .z (.s 2)) .z))) (AllS.all (l := [(2, .block 0 (.loop (subC (bodyOf Try.f61) [true, false, true, false, false])))]) (by kernel_rfl) ⟨ref46_brokenS2, trivial⟩) (Nat.le_of_ble_eq_true (by kernel_rfl)) (by kernel_rfl) (fun a => by kernel_rfl)

/-! casebook/casebookref46.may -/

def ref46_mayR_ : Shp := ⟨[(0, .d true .bool)], []⟩

noncomputable abbrev ref46_mayX : Ctx (Bool) := ⟨26, tt, false, [], gam [(57, ref46_hasM), (61, ref46_brokenM)], lam [], resU 26 tt [] [.tmp 12] ref46_mayR_ (fun (x : ((Bool × Unit) × (Unit))) => x.1.1)⟩

theorem ref46_mayG : CtxOK Try.prog ref46_mayX := ⟨fits, gam_ok (AllM.all (l := [(57, ref46_hasM), (61, ref46_brokenM)]) ⟨ref46_has_ok, ref46_broken_ok, trivial⟩)⟩

noncomputable abbrev ref46_mayM : Mdl := (mdlOf (.cons (.d false Org.ty) (.cons (.d false .str) (.cons (.d false .str) (.cons (.d false .str) (.cons (.d false (.int .i64)) (.cons (.d false (.slice Task.ty)) .nil)))))) [] [] 1 ref46_mayR_ (fun (b : Bool) => ((b, ()), (()))) (fun (a : ((Org × ByteArray × ByteArray × ByteArray × Int × (List Task) × Unit) × (Unit))) => ref46_may a.1.1 a.1.2.1 a.1.2.2.1 a.1.2.2.2.1 a.1.2.2.2.2.1 a.1.2.2.2.2.2.1))

theorem ref46_may_ok : MdlOK Try.prog 52 ref46_mayM :=
  fn_ok (c := (bodyOf Try.f52)) Try.func52 (by rfl) (by kernel_rfl) (X := ref46_mayX) (by kernel_rfl) (rs := [.tmp 12]) (by kernel_rfl) (sh := ref46_mayR_) (un := (fun (x : ((Bool × Unit) × (Unit))) => x.1.1)) (mk := (fun (b : Bool) => ((b, ()), (())))) (fun _ => rfl) rfl (ref46_mayG) mixed (ann := .z) (AllS.all (l := []) (by kernel_rfl) trivial) (Nat.le_of_ble_eq_true (by kernel_rfl)) (by kernel_rfl) (fun a => by kernel_rfl)

/-! casebook/casebookref46.Check -/

def ref46_CheckR_ : Shp := ⟨[(0, .d true .bool)], []⟩

noncomputable abbrev ref46_CheckX : Ctx (Bool) := ⟨70, tt, false, [], gam [(49, ref46_faultM), (50, ref46_PersonM), (51, ref02_IndexM), (52, ref46_mayM)], lam [loopSumm (Bool) 70 [] ref46_CheckL0I (C := ((List ByteArray) × (List ByteArray) × (List ByteArray) × Int × (List Task) × (List Person) × (List Delegation) × (List Duty))) (S := Int) (fun (x : (((List ByteArray) × (List ByteArray) × (List ByteArray) × Int × (List Task) × Unit × Int × Unit) × (((List Person) × (List Delegation) × (List Duty) × Unit) × Unit))) => ((x.1.1, x.1.2.1, x.1.2.2.1, x.1.2.2.2.1, x.1.2.2.2.2.1, x.2.1.1, x.2.1.2.1, x.2.1.2.2.1), x.1.2.2.2.2.2.2.1)) ref46_CheckL0E (CE := Unit) (E := Unit) (fun (c : Unit) (e : Unit) => ((()), (()))) (fun (c : ((List ByteArray) × (List ByteArray) × (List ByteArray) × Int × (List Task) × (List Person) × (List Delegation) × (List Duty))) => ()) (fun {R} c a nx dn rt => ref46_CheckL0K c.1 c.2.1 c.2.2.1 c.2.2.2.1 c.2.2.2.2.1 c.2.2.2.2.2.1 c.2.2.2.2.2.2.1 c.2.2.2.2.2.2.2 a nx dn rt)], resU 70 tt [] [.tmp 12] ref46_CheckR_ (fun (x : ((Bool × Unit) × (Unit))) => x.1.1)⟩

theorem ref46_CheckG : CtxOK Try.prog ref46_CheckX := ⟨fits, gam_ok (AllM.all (l := [(49, ref46_faultM), (50, ref46_PersonM), (51, ref02_IndexM), (52, ref46_mayM)]) ⟨ref46_fault_ok, ref46_Person_ok, ref02_Index_ok, ref46_may_ok, trivial⟩)⟩

theorem ref46_CheckS0 : SummOK Try.prog ref46_CheckX 0 (.block 0 (.loop (subC (bodyOf Try.f15) [true, true, false, true, false, false]))) :=
  loop_ok (shI := ref46_CheckL0I) (shE := ref46_CheckL0E) (C := ((List ByteArray) × (List ByteArray) × (List ByteArray) × Int × (List Task) × (List Person) × (List Delegation) × (List Duty))) (S := Int) (CE := Unit) (E := Unit) (ref46_CheckG) mixed (ann := (.two .z (.two (.one (.two (.d [0, 0, 0, 6, 14, 31, 63, 127, 255, 255, 255, 1791, 3839, 8191, 255, 32767, 65535, 131071, 262143, 262143, 262143, 1835007, 3932159, 262143, 262143, 25427967, 58982399, 262143, 262143, 402915327, 939786239, 262143, 262143, 8589934591, 17179869183, 34359738367] [] []) .z)) .z))) (AllS.all (l := []) (by kernel_rfl) trivial) (mk := (fun (c : ((List ByteArray) × (List ByteArray) × (List ByteArray) × Int × (List Task) × (List Person) × (List Delegation) × (List Duty))) (a : Int) => ((c.1, c.2.1, c.2.2.1, c.2.2.2.1, c.2.2.2.2.1, (), a, ()), ((c.2.2.2.2.2.1, c.2.2.2.2.2.2.1, c.2.2.2.2.2.2.2, ()), ())))) (unE := (fun (y : ((Unit) × (Unit))) => ((), ()))) rfl (fun _ => rfl) (fun _ => rfl) (fun R K D T c a => by kernel_rfl)

noncomputable abbrev ref46_CheckM : Mdl := (mdlOf (.cons (.d false Org.ty) (.cons (.d false (.slice .str)) (.cons (.d false (.slice .str)) (.cons (.d false (.slice .str)) (.cons (.d false (.int .i64)) (.cons (.d false (.slice Task.ty)) .nil)))))) [] [] 1 ref46_CheckR_ (fun (b : Bool) => ((b, ()), (()))) (fun (a : ((Org × (List ByteArray) × (List ByteArray) × (List ByteArray) × Int × (List Task) × Unit) × (Unit))) => ref46_Check a.1.1 a.1.2.1 a.1.2.2.1 a.1.2.2.2.1 a.1.2.2.2.2.1 a.1.2.2.2.2.2.1))

theorem ref46_Check_ok : MdlOK Try.prog 15 ref46_CheckM :=
  fn_ok (c := (bodyOf Try.f15)) Try.func15 (by rfl) (by kernel_rfl) (X := ref46_CheckX) (by kernel_rfl) (rs := [.tmp 12]) (by kernel_rfl) (sh := ref46_CheckR_) (un := (fun (x : ((Bool × Unit) × (Unit))) => x.1.1)) (mk := (fun (b : Bool) => ((b, ()), (())))) (fun _ => rfl) rfl (ref46_CheckG) mixed (ann := (.two .z (.two .z (.two (.two .z (.s 0)) .z)))) (AllS.all (l := [(0, .block 0 (.loop (subC (bodyOf Try.f15) [true, true, false, true, false, false])))]) (by kernel_rfl) ⟨ref46_CheckS0, trivial⟩) (Nat.le_of_ble_eq_true (by kernel_rfl)) (by kernel_rfl) (fun a => by kernel_rfl)

/-! casebook/casebooklaw46.RolesChecks -/

def law46_RolesChecksR_ : Shp := ⟨[(0, .d true .bool)], []⟩

noncomputable abbrev law46_RolesChecksX : Ctx (Bool) := ⟨49, tt, false, [], gam [(9, law46_awakeM), (10, law46_fewM), (11, law46_openM), (12, law46_wordsM), (13, law46_tasksM), (14, roles_CheckM), (15, ref46_CheckM)], lam [], resU 49 tt [] [.tmp 12] law46_RolesChecksR_ (fun (x : ((Bool × Unit) × (Unit))) => x.1.1)⟩

theorem law46_RolesChecksG : CtxOK Try.prog law46_RolesChecksX := ⟨fits, gam_ok (AllM.all (l := [(9, law46_awakeM), (10, law46_fewM), (11, law46_openM), (12, law46_wordsM), (13, law46_tasksM), (14, roles_CheckM), (15, ref46_CheckM)]) ⟨law46_awake_ok, law46_few_ok, law46_open_ok, law46_words_ok, law46_tasks_ok, roles_Check_ok, ref46_Check_ok, trivial⟩)⟩

noncomputable abbrev law46_RolesChecksM : Mdl := (mdlOf (.cons (.d true Org.ty) (.cons (.d true (.slice .str)) (.cons (.d true (.slice .str)) (.cons (.d true (.slice .str)) (.cons (.d true (.int .i64)) (.cons (.d true (.slice Task.ty)) .nil)))))) [] [] 1 law46_RolesChecksR_ (fun (b : Bool) => ((b, ()), (()))) (fun (a : ((Org × (List ByteArray) × (List ByteArray) × (List ByteArray) × Int × (List Task) × Unit) × (Unit))) => law46_RolesChecks a.1.1 a.1.2.1 a.1.2.2.1 a.1.2.2.2.1 a.1.2.2.2.2.1 a.1.2.2.2.2.2.1))

theorem law46_RolesChecks_ok : MdlOK Try.prog 3 law46_RolesChecksM :=
  fn_ok (c := (bodyOf Try.f3)) Try.func3 (by rfl) (by kernel_rfl) (X := law46_RolesChecksX) (by kernel_rfl) (rs := [.tmp 12]) (by kernel_rfl) (sh := law46_RolesChecksR_) (un := (fun (x : ((Bool × Unit) × (Unit))) => x.1.1)) (mk := (fun (b : Bool) => ((b, ()), (())))) (fun _ => rfl) rfl (law46_RolesChecksG) mixed (ann := (.two .z (.two .z (.two .z (.two (.d [0, 0, 0, 0, 0, 0, 63, 0, 0, 0, 0, 0, 0, 8191, 16383, 32767] [] []) .z))))) (AllS.all (l := []) (by kernel_rfl) trivial) (Nat.le_of_ble_eq_true (by kernel_rfl)) (by kernel_rfl) (fun a => by kernel_rfl)

end Go.Proofs.Ytmlfmeffjodhmaa
