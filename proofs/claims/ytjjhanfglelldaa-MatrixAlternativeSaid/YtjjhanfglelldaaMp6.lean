/-
  The functions compute what their models say. Made by program (mg3.py) out of the translation.
-/
import Derived.Test.YtjjhanfglelldaaMd
import Derived.Test.YtjjhanfglelldaaTt
set_option linter.all false
set_option maxRecDepth 100000
namespace Go.Proofs.Ytjjhanfglelldaa
open Go.K Go.M

/-! casebook/matrix.entries$1 -/

def matrix_entries_1R_ : Shp := ⟨[(0, .d true .bool)], []⟩

noncomputable abbrev matrix_entries_1X : Ctx (Bool) := ⟨9, tt, false, [], gam [], lam [], resU 9 tt [] [.tmp 2] matrix_entries_1R_ (fun (x : ((Bool × Unit) × (Unit))) => x.1.1)⟩

theorem matrix_entries_1G : CtxOK Try.prog matrix_entries_1X := ⟨fits, gam_ok (AllM.all (l := []) trivial)⟩

noncomputable abbrev matrix_entries_1M : Mdl := (mdlOf (.cons (.d false (.int .i64)) .nil) [] [] 1 matrix_entries_1R_ (fun (b : Bool) => ((b, ()), (()))) (fun (a : ((Int × Unit) × (Unit))) => matrix_entries_1 a.1.1))

theorem matrix_entries_1_ok : MdlOK Try.prog 64 matrix_entries_1M :=
  fn_ok (c := (bodyOf Try.f64)) Try.func64 (by rfl) (by kernel_rfl) (X := matrix_entries_1X) (by kernel_rfl) (rs := [.tmp 2]) (by kernel_rfl) (sh := matrix_entries_1R_) (un := (fun (x : ((Bool × Unit) × (Unit))) => x.1.1)) (mk := (fun (b : Bool) => ((b, ()), (())))) (fun _ => rfl) rfl (matrix_entries_1G) mixed (ann := .z) (AllS.all (l := []) (by kernel_rfl) trivial) (Nat.le_of_ble_eq_true (by kernel_rfl)) (by kernel_rfl) (fun a => by kernel_rfl)

/-! slices.IndexFunc[[]int,int] -/

def slices_IndexFunc_int_int_64R_ : Shp := ⟨[(0, .d true (.int .i64))], []⟩

noncomputable abbrev slices_IndexFunc_int_int_64X : Ctx (Int) := ⟨19, tt, false, [], gam [(64, matrix_entries_1M)], lam [loopSumm (Int) 19 [] slices_IndexFunc_int_int_64L0I (C := ((List Int) × Int)) (S := Int) (fun (x : (((List Int) × (Unit) × Int × Int × Unit) × (Unit))) => ((x.1.1, x.1.2.2.1), x.1.2.2.2.1)) slices_IndexFunc_int_int_64L0E (CE := Unit) (E := Unit) (fun (c : Unit) (e : Unit) => ((()), (()))) (fun (c : ((List Int) × Int)) => ()) (fun {R} c a nx dn rt => slices_IndexFunc_int_int_64L0K c.1 c.2 a nx dn rt)], resU 19 tt [] [.tmp 4] slices_IndexFunc_int_int_64R_ (fun (x : ((Int × Unit) × (Unit))) => x.1.1)⟩

theorem slices_IndexFunc_int_int_64G : CtxOK Try.prog slices_IndexFunc_int_int_64X := ⟨fits, gam_ok (AllM.all (l := [(64, matrix_entries_1M)]) ⟨matrix_entries_1_ok, trivial⟩)⟩

theorem slices_IndexFunc_int_int_64S0 : SummOK Try.prog slices_IndexFunc_int_int_64X 0 (.block 0 (.loop (subC (bodyOf Try.f66) [true, false, true, false, false]))) :=
  loop_ok (shI := slices_IndexFunc_int_int_64L0I) (shE := slices_IndexFunc_int_int_64L0E) (C := ((List Int) × Int)) (S := Int) (CE := Unit) (E := Unit) (slices_IndexFunc_int_int_64G) mixed (ann := .z) (AllS.all (l := []) (by kernel_rfl) trivial) (mk := (fun (c : ((List Int) × Int)) (a : Int) => ((c.1, (()), c.2, a, ()), (())))) (unE := (fun (y : ((Unit) × (Unit))) => ((), ()))) rfl (fun _ => rfl) (fun _ => rfl) (fun R K D T c a => by kernel_rfl)

noncomputable abbrev slices_IndexFunc_int_int_64M : Mdl := (mdlOf (.cons (.d false (.slice (.int .i64))) (.cons (.fn 64 .nil) .nil)) [] [] 1 slices_IndexFunc_int_int_64R_ (fun (b : Int) => ((b, ()), (()))) (fun (a : (((List Int) × (Unit) × Unit) × (Unit))) => slices_IndexFunc_int_int_64 a.1.1))

theorem slices_IndexFunc_int_int_64_ok : MdlOK Try.prog 66 slices_IndexFunc_int_int_64M :=
  fn_ok (c := (bodyOf Try.f66)) Try.func66 (by rfl) (by kernel_rfl) (X := slices_IndexFunc_int_int_64X) (by kernel_rfl) (rs := [.tmp 4]) (by kernel_rfl) (sh := slices_IndexFunc_int_int_64R_) (un := (fun (x : ((Int × Unit) × (Unit))) => x.1.1)) (mk := (fun (b : Int) => ((b, ()), (())))) (fun _ => rfl) rfl (slices_IndexFunc_int_int_64G) mixed (ann := (.two .z (.two (.two .z (.s 0)) .z))) (AllS.all (l := [(0, .block 0 (.loop (subC (bodyOf Try.f66) [true, false, true, false, false])))]) (by kernel_rfl) ⟨slices_IndexFunc_int_int_64S0, trivial⟩) (Nat.le_of_ble_eq_true (by kernel_rfl)) (by kernel_rfl) (fun a => by kernel_rfl)

/-! slices.ContainsFunc[[]int,int] -/

def slices_ContainsFunc_int_int_64R_ : Shp := ⟨[(0, .d true .bool)], []⟩

noncomputable abbrev slices_ContainsFunc_int_int_64X : Ctx (Bool) := ⟨9, tt, false, [], gam [(66, slices_IndexFunc_int_int_64M)], lam [], resU 9 tt [] [.tmp 4] slices_ContainsFunc_int_int_64R_ (fun (x : ((Bool × Unit) × (Unit))) => x.1.1)⟩

theorem slices_ContainsFunc_int_int_64G : CtxOK Try.prog slices_ContainsFunc_int_int_64X := ⟨fits, gam_ok (AllM.all (l := [(66, slices_IndexFunc_int_int_64M)]) ⟨slices_IndexFunc_int_int_64_ok, trivial⟩)⟩

noncomputable abbrev slices_ContainsFunc_int_int_64M : Mdl := (mdlOf (.cons (.d false (.slice (.int .i64))) (.cons (.fn 64 .nil) .nil)) [] [] 1 slices_ContainsFunc_int_int_64R_ (fun (b : Bool) => ((b, ()), (()))) (fun (a : (((List Int) × (Unit) × Unit) × (Unit))) => slices_ContainsFunc_int_int_64 a.1.1))

theorem slices_ContainsFunc_int_int_64_ok : MdlOK Try.prog 63 slices_ContainsFunc_int_int_64M :=
  fn_ok (c := (bodyOf Try.f63)) Try.func63 (by rfl) (by kernel_rfl) (X := slices_ContainsFunc_int_int_64X) (by kernel_rfl) (rs := [.tmp 4]) (by kernel_rfl) (sh := slices_ContainsFunc_int_int_64R_) (un := (fun (x : ((Bool × Unit) × (Unit))) => x.1.1)) (mk := (fun (b : Bool) => ((b, ()), (())))) (fun _ => rfl) rfl (slices_ContainsFunc_int_int_64G) mixed (ann := .z) (AllS.all (l := []) (by kernel_rfl) trivial) (Nat.le_of_ble_eq_true (by kernel_rfl)) (by kernel_rfl) (fun a => by kernel_rfl)

/-! casebook/matrix.entries -/

def matrix_entriesR_ : Shp := ⟨[(0, .d true .bool)], []⟩

noncomputable abbrev matrix_entriesX : Ctx (Bool) := ⟨6, tt, false, [], gam [(63, slices_ContainsFunc_int_int_64M)], lam [], resU 6 tt [] [.tmp 2] matrix_entriesR_ (fun (x : ((Bool × Unit) × (Unit))) => x.1.1)⟩

theorem matrix_entriesG : CtxOK Try.prog matrix_entriesX := ⟨fits, gam_ok (AllM.all (l := [(63, slices_ContainsFunc_int_int_64M)]) ⟨slices_ContainsFunc_int_int_64_ok, trivial⟩)⟩

noncomputable abbrev matrix_entriesM : Mdl := (mdlOf (.cons (.d false (.slice (.int .i64))) .nil) [] [] 1 matrix_entriesR_ (fun (b : Bool) => ((b, ()), (()))) (fun (a : (((List Int) × Unit) × (Unit))) => matrix_entries a.1.1))

theorem matrix_entries_ok : MdlOK Try.prog 54 matrix_entriesM :=
  fn_ok (c := (bodyOf Try.f54)) Try.func54 (by rfl) (by kernel_rfl) (X := matrix_entriesX) (by kernel_rfl) (rs := [.tmp 2]) (by kernel_rfl) (sh := matrix_entriesR_) (un := (fun (x : ((Bool × Unit) × (Unit))) => x.1.1)) (mk := (fun (b : Bool) => ((b, ()), (())))) (fun _ => rfl) rfl (matrix_entriesG) mixed (ann := .z) (AllS.all (l := []) (by kernel_rfl) trivial) (Nat.le_of_ble_eq_true (by kernel_rfl)) (by kernel_rfl) (fun a => by kernel_rfl)

/-! casebook/matrix.Valid$1 -/

def matrix_Valid_1R_ : Shp := ⟨[(0, .d true .bool)], []⟩

noncomputable abbrev matrix_Valid_1X : Ctx (Bool) := ⟨16, tt, false, [], gam [(54, matrix_entriesM)], lam [], resU 16 tt [] [.tmp 3] matrix_Valid_1R_ (fun (x : ((Bool × Unit) × (Unit))) => x.1.1)⟩

theorem matrix_Valid_1G : CtxOK Try.prog matrix_Valid_1X := ⟨fits, gam_ok (AllM.all (l := [(54, matrix_entriesM)]) ⟨matrix_entries_ok, trivial⟩)⟩

noncomputable abbrev matrix_Valid_1M : Mdl := (mdlOf (.cons (.d false (.slice (.int .i64))) (.cons (.rp false (.slice (.slice (.int .i64)))) .nil)) [] [] 1 matrix_Valid_1R_ (fun (b : Bool) => ((b, ()), (()))) (fun (a : (((List Int) × (List (List Int)) × Unit) × (Unit))) => matrix_Valid_1 a.1.1 a.1.2.1))

theorem matrix_Valid_1_ok : MdlOK Try.prog 53 matrix_Valid_1M :=
  fn_ok (c := (bodyOf Try.f53)) Try.func53 (by rfl) (by kernel_rfl) (X := matrix_Valid_1X) (by kernel_rfl) (rs := [.tmp 3]) (by kernel_rfl) (sh := matrix_Valid_1R_) (un := (fun (x : ((Bool × Unit) × (Unit))) => x.1.1)) (mk := (fun (b : Bool) => ((b, ()), (())))) (fun _ => rfl) rfl (matrix_Valid_1G) mixed (ann := .z) (AllS.all (l := []) (by kernel_rfl) trivial) (Nat.le_of_ble_eq_true (by kernel_rfl)) (by kernel_rfl) (fun a => by kernel_rfl)

/-! slices.IndexFunc[[][]int,[]int] -/

def slices_IndexFunc_int_int_53R_ : Shp := ⟨[(0, .d true (.int .i64))], []⟩

noncomputable abbrev slices_IndexFunc_int_int_53X : Ctx (Int) := ⟨19, tt, false, [], gam [(53, matrix_Valid_1M)], lam [loopSumm (Int) 19 [] slices_IndexFunc_int_int_53L0I (C := ((List (List Int)) × (List (List Int)) × Int)) (S := Int) (fun (x : (((List (List Int)) × ((List (List Int)) × Unit) × Int × Int × Unit) × (Unit))) => ((x.1.1, x.1.2.1.1, x.1.2.2.1), x.1.2.2.2.1)) slices_IndexFunc_int_int_53L0E (CE := Unit) (E := Unit) (fun (c : Unit) (e : Unit) => ((()), (()))) (fun (c : ((List (List Int)) × (List (List Int)) × Int)) => ()) (fun {R} c a nx dn rt => slices_IndexFunc_int_int_53L0K c.1 c.2.1 c.2.2 a nx dn rt)], resU 19 tt [] [.tmp 4] slices_IndexFunc_int_int_53R_ (fun (x : ((Int × Unit) × (Unit))) => x.1.1)⟩

theorem slices_IndexFunc_int_int_53G : CtxOK Try.prog slices_IndexFunc_int_int_53X := ⟨fits, gam_ok (AllM.all (l := [(53, matrix_Valid_1M)]) ⟨matrix_Valid_1_ok, trivial⟩)⟩

theorem slices_IndexFunc_int_int_53S0 : SummOK Try.prog slices_IndexFunc_int_int_53X 0 (.block 0 (.loop (subC (bodyOf Try.f62) [true, false, true, false, false]))) :=
  loop_ok (shI := slices_IndexFunc_int_int_53L0I) (shE := slices_IndexFunc_int_int_53L0E) (C := ((List (List Int)) × (List (List Int)) × Int)) (S := Int) (CE := Unit) (E := Unit) (slices_IndexFunc_int_int_53G) mixed (ann := .z) (AllS.all (l := []) (by kernel_rfl) trivial) (mk := (fun (c : ((List (List Int)) × (List (List Int)) × Int)) (a : Int) => ((c.1, (c.2.1, ()), c.2.2, a, ()), (())))) (unE := (fun (y : ((Unit) × (Unit))) => ((), ()))) rfl (fun _ => rfl) (fun _ => rfl) (fun R K D T c a => by kernel_rfl)

noncomputable abbrev slices_IndexFunc_int_int_53M : Mdl := (mdlOf (.cons (.d false (.slice (.slice (.int .i64)))) (.cons (.fn 53 (.cons (.rp false (.slice (.slice (.int .i64)))) .nil)) .nil)) [] [] 1 slices_IndexFunc_int_int_53R_ (fun (b : Int) => ((b, ()), (()))) (fun (a : (((List (List Int)) × ((List (List Int)) × Unit) × Unit) × (Unit))) => slices_IndexFunc_int_int_53 a.1.1 a.1.2.1.1))

theorem slices_IndexFunc_int_int_53_ok : MdlOK Try.prog 62 slices_IndexFunc_int_int_53M :=
  fn_ok (c := (bodyOf Try.f62)) Try.func62 (by rfl) (by kernel_rfl) (X := slices_IndexFunc_int_int_53X) (by kernel_rfl) (rs := [.tmp 4]) (by kernel_rfl) (sh := slices_IndexFunc_int_int_53R_) (un := (fun (x : ((Int × Unit) × (Unit))) => x.1.1)) (mk := (fun (b : Int) => ((b, ()), (())))) (fun _ => rfl) rfl (slices_IndexFunc_int_int_53G) mixed (ann := (.two .z (.two (.two .z (.s 0)) .z))) (AllS.all (l := [(0, .block 0 (.loop (subC (bodyOf Try.f62) [true, false, true, false, false])))]) (by kernel_rfl) ⟨slices_IndexFunc_int_int_53S0, trivial⟩) (Nat.le_of_ble_eq_true (by kernel_rfl)) (by kernel_rfl) (fun a => by kernel_rfl)

/-! slices.ContainsFunc[[][]int,[]int] -/

def slices_ContainsFunc_int_int_53R_ : Shp := ⟨[(0, .d true .bool)], []⟩

noncomputable abbrev slices_ContainsFunc_int_int_53X : Ctx (Bool) := ⟨9, tt, false, [], gam [(62, slices_IndexFunc_int_int_53M)], lam [], resU 9 tt [] [.tmp 4] slices_ContainsFunc_int_int_53R_ (fun (x : ((Bool × Unit) × (Unit))) => x.1.1)⟩

theorem slices_ContainsFunc_int_int_53G : CtxOK Try.prog slices_ContainsFunc_int_int_53X := ⟨fits, gam_ok (AllM.all (l := [(62, slices_IndexFunc_int_int_53M)]) ⟨slices_IndexFunc_int_int_53_ok, trivial⟩)⟩

noncomputable abbrev slices_ContainsFunc_int_int_53M : Mdl := (mdlOf (.cons (.d false (.slice (.slice (.int .i64)))) (.cons (.fn 53 (.cons (.rp false (.slice (.slice (.int .i64)))) .nil)) .nil)) [] [] 1 slices_ContainsFunc_int_int_53R_ (fun (b : Bool) => ((b, ()), (()))) (fun (a : (((List (List Int)) × ((List (List Int)) × Unit) × Unit) × (Unit))) => slices_ContainsFunc_int_int_53 a.1.1 a.1.2.1.1))

theorem slices_ContainsFunc_int_int_53_ok : MdlOK Try.prog 52 slices_ContainsFunc_int_int_53M :=
  fn_ok (c := (bodyOf Try.f52)) Try.func52 (by rfl) (by kernel_rfl) (X := slices_ContainsFunc_int_int_53X) (by kernel_rfl) (rs := [.tmp 4]) (by kernel_rfl) (sh := slices_ContainsFunc_int_int_53R_) (un := (fun (x : ((Bool × Unit) × (Unit))) => x.1.1)) (mk := (fun (b : Bool) => ((b, ()), (())))) (fun _ => rfl) rfl (slices_ContainsFunc_int_int_53G) mixed (ann := .z) (AllS.all (l := []) (by kernel_rfl) trivial) (Nat.le_of_ble_eq_true (by kernel_rfl)) (by kernel_rfl) (fun a => by kernel_rfl)

/-! casebook/matrix.Valid -/

def matrix_ValidR_ : Shp := ⟨[(0, .d true .bool)], []⟩

noncomputable abbrev matrix_ValidX : Ctx (Bool) := ⟨29, tt, false, [], gam [(52, slices_ContainsFunc_int_int_53M)], lam [], resU 29 tt [] [.tmp 2] matrix_ValidR_ (fun (x : ((Bool × Unit) × (Unit))) => x.1.1)⟩

theorem matrix_ValidG : CtxOK Try.prog matrix_ValidX := ⟨fits, gam_ok (AllM.all (l := [(52, slices_ContainsFunc_int_int_53M)]) ⟨slices_ContainsFunc_int_int_53_ok, trivial⟩)⟩

noncomputable abbrev matrix_ValidM : Mdl := (mdlOf (.cons (.d false (.slice (.slice (.int .i64)))) .nil) [] [] 1 matrix_ValidR_ (fun (b : Bool) => ((b, ()), (()))) (fun (a : (((List (List Int)) × Unit) × (Unit))) => matrix_Valid a.1.1))

theorem matrix_Valid_ok : MdlOK Try.prog 36 matrix_ValidM :=
  fn_ok (c := (bodyOf Try.f36)) Try.func36 (by rfl) (by kernel_rfl) (X := matrix_ValidX) (by kernel_rfl) (rs := [.tmp 2]) (by kernel_rfl) (sh := matrix_ValidR_) (un := (fun (x : ((Bool × Unit) × (Unit))) => x.1.1)) (mk := (fun (b : Bool) => ((b, ()), (())))) (fun _ => rfl) rfl (matrix_ValidG) mixed (ann := .z) (AllS.all (l := []) (by kernel_rfl) trivial) (Nat.le_of_ble_eq_true (by kernel_rfl)) (by kernel_rfl) (fun a => by kernel_rfl)

/-! casebook/matrix.abs -/

def matrix_absR_ : Shp := ⟨[(0, .d true (.int .i64))], []⟩

noncomputable abbrev matrix_absX : Ctx (Int) := ⟨7, tt, true, [], gam [], lam [], resU 7 tt [] [.tmp 2] matrix_absR_ (fun (x : ((Int × Unit) × (Unit))) => x.1.1)⟩

theorem matrix_absG : CtxOK Try.prog matrix_absX := ⟨fits, gam_ok (AllM.all (l := []) trivial)⟩

noncomputable abbrev matrix_absM : Mdl := (mdlOf (.cons (.d false (.int .i64)) .nil) [] [] 1 matrix_absR_ (fun (b : Int) => ((b, ()), (()))) (fun (a : ((Int × Unit) × (Unit))) => matrix_abs a.1.1))

theorem matrix_abs_ok : MdlOK Try.prog 55 matrix_absM :=
  fn_ok (c := (bodyOf Try.f55)) Try.func55 (by rfl) (by kernel_rfl) (X := matrix_absX) (by kernel_rfl) (rs := [.tmp 2]) (by kernel_rfl) (sh := matrix_absR_) (un := (fun (x : ((Int × Unit) × (Unit))) => x.1.1)) (mk := (fun (b : Int) => ((b, ()), (())))) (fun _ => rfl) rfl (matrix_absG) mixed (ann := .z) (AllS.all (l := []) (by kernel_rfl) trivial) (Nat.le_of_ble_eq_true (by kernel_rfl)) (by kernel_rfl) (fun a => by kernel_rfl)

/-! casebook/matrix.small -/

def matrix_smallR_ : Shp := ⟨[(0, .d true .bool)], []⟩

noncomputable abbrev matrix_smallX : Ctx (Bool) := ⟨33, tt, false, [], gam [(55, matrix_absM)], lam [loopSumm (Bool) 33 [] matrix_smallL0I (C := (Int × (List (List Int)) × Int × Int × (List Int) × Int)) (S := (Int × Int)) (fun (x : ((Int × Int × (List (List Int)) × Int × Int × (List Int) × Int × Int × Unit) × (Unit))) => ((x.1.1, x.1.2.2.1, x.1.2.2.2.1, x.1.2.2.2.2.1, x.1.2.2.2.2.2.1, x.1.2.2.2.2.2.2.1), (x.1.2.1, x.1.2.2.2.2.2.2.2.1))) matrix_smallL0E (CE := (Int × (List (List Int)) × Int × Int)) (E := Int) (fun (c : (Int × (List (List Int)) × Int × Int)) (e : Int) => ((c.1, e, c.2.1, c.2.2.1, c.2.2.2, ()), (()))) (fun (c : (Int × (List (List Int)) × Int × Int × (List Int) × Int)) => (c.1, c.2.1, c.2.2.1, c.2.2.2.1)) (fun {R} c a nx dn rt => matrix_smallL0K c.1 c.2.1 c.2.2.1 c.2.2.2.1 c.2.2.2.2.1 c.2.2.2.2.2 a.1 a.2 nx dn rt),
  loopSumm (Bool) 33 [] matrix_smallL1I (C := ((List (List Int)) × Int)) (S := (Int × Int)) (fun (x : ((Int × (List (List Int)) × Int × Int × Unit) × (Unit))) => ((x.1.2.1, x.1.2.2.1), (x.1.1, x.1.2.2.2.1))) matrix_smallL1E (CE := Unit) (E := Unit) (fun (c : Unit) (e : Unit) => ((()), (()))) (fun (c : ((List (List Int)) × Int)) => ()) (fun {R} c a nx dn rt => matrix_smallL1K c.1 c.2 a.1 a.2 nx dn rt)], resU 33 tt [] [.tmp 2] matrix_smallR_ (fun (x : ((Bool × Unit) × (Unit))) => x.1.1)⟩

theorem matrix_smallG : CtxOK Try.prog matrix_smallX := ⟨fits, gam_ok (AllM.all (l := [(55, matrix_absM)]) ⟨matrix_abs_ok, trivial⟩)⟩

theorem matrix_smallS0 : SummOK Try.prog matrix_smallX 0 (.block 2 (.loop (subC (bodyOf Try.f38) [true, true, false, true, false, false, true, true, false, false, true, true, false, true, false, false]))) :=
  loop_ok (shI := matrix_smallL0I) (shE := matrix_smallL0E) (C := (Int × (List (List Int)) × Int × Int × (List Int) × Int)) (S := (Int × Int)) (CE := (Int × (List (List Int)) × Int × Int)) (E := Int) (matrix_smallG) mixed (ann := .z) (AllS.all (l := []) (by kernel_rfl) trivial) (mk := (fun (c : (Int × (List (List Int)) × Int × Int × (List Int) × Int)) (a : (Int × Int)) => ((c.1, a.1, c.2.1, c.2.2.1, c.2.2.2.1, c.2.2.2.2.1, c.2.2.2.2.2, a.2, ()), (())))) (unE := (fun (y : ((Int × Int × (List (List Int)) × Int × Int × Unit) × (Unit))) => ((y.1.1, y.1.2.2.1, y.1.2.2.2.1, y.1.2.2.2.2.1), y.1.2.1))) rfl (fun _ => rfl) (fun _ => rfl) (fun R K D T c a => by kernel_rfl)

theorem matrix_smallS1 : SummOK Try.prog matrix_smallX 1 (.block 0 (.loop (subC (bodyOf Try.f38) [true, true, false, true, false, false]))) :=
  loop_ok (shI := matrix_smallL1I) (shE := matrix_smallL1E) (C := ((List (List Int)) × Int)) (S := (Int × Int)) (CE := Unit) (E := Unit) (matrix_smallG) mixed (ann := (.two .z (.two .z (.two (.one (.two .z (.two .z (.two (.two .z (.s 0)) .z)))) .z)))) (AllS.all (l := [(0, .block 2 (.loop (subC (bodyOf Try.f38) [true, true, false, true, false, false, true, true, false, false, true, true, false, true, false, false])))]) (by kernel_rfl) ⟨matrix_smallS0, trivial⟩) (mk := (fun (c : ((List (List Int)) × Int)) (a : (Int × Int)) => ((a.1, c.1, c.2, a.2, ()), (())))) (unE := (fun (y : ((Unit) × (Unit))) => ((), ()))) rfl (fun _ => rfl) (fun _ => rfl) (fun R K D T c a => by kernel_rfl)

noncomputable abbrev matrix_smallM : Mdl := (mdlOf (.cons (.d false (.slice (.slice (.int .i64)))) .nil) [] [] 1 matrix_smallR_ (fun (b : Bool) => ((b, ()), (()))) (fun (a : (((List (List Int)) × Unit) × (Unit))) => matrix_small a.1.1))

theorem matrix_small_ok : MdlOK Try.prog 38 matrix_smallM :=
  fn_ok (c := (bodyOf Try.f38)) Try.func38 (by rfl) (by kernel_rfl) (X := matrix_smallX) (by kernel_rfl) (rs := [.tmp 2]) (by kernel_rfl) (sh := matrix_smallR_) (un := (fun (x : ((Bool × Unit) × (Unit))) => x.1.1)) (mk := (fun (b : Bool) => ((b, ()), (())))) (fun _ => rfl) rfl (matrix_smallG) mixed (ann := (.two .z (.two .z (.two (.two .z (.s 1)) .z)))) (AllS.all (l := [(1, .block 0 (.loop (subC (bodyOf Try.f38) [true, true, false, true, false, false])))]) (by kernel_rfl) ⟨matrix_smallS1, trivial⟩) (Nat.le_of_ble_eq_true (by kernel_rfl)) (by kernel_rfl) (fun a => by kernel_rfl)

/-! slices.Clone[[]int,int] -/

def slices_Clone_int_intR_ : Shp := ⟨[(0, .own 0)], [.arr 3 (.fz true) [0] (.int .i64)]⟩

noncomputable abbrev slices_Clone_int_intX : Ctx ((List Int)) := ⟨8, tt, false, [], gam [], lam [], resU 8 tt [] [.tmp 2] slices_Clone_int_intR_ (fun (x : ((Unit × Unit) × ((List Int) × Unit))) => x.2.1)⟩

theorem slices_Clone_int_intG : CtxOK Try.prog slices_Clone_int_intX := ⟨fits, gam_ok (AllM.all (l := []) trivial)⟩

noncomputable abbrev slices_Clone_int_intM : Mdl := (mdlOf (.cons (.d false (.slice (.int .i64))) .nil) [] [] 1 slices_Clone_int_intR_ (fun (b : (List Int)) => (((), ()), (b, ()))) (fun (a : (((List Int) × Unit) × (Unit))) => slices_Clone_int_int a.1.1))

theorem slices_Clone_int_int_ok : MdlOK Try.prog 43 slices_Clone_int_intM :=
  fn_ok (c := (bodyOf Try.f43)) Try.func43 (by rfl) (by kernel_rfl) (X := slices_Clone_int_intX) (by kernel_rfl) (rs := [.tmp 2]) (by kernel_rfl) (sh := slices_Clone_int_intR_) (un := (fun (x : ((Unit × Unit) × ((List Int) × Unit))) => x.2.1)) (mk := (fun (b : (List Int)) => (((), ()), (b, ())))) (fun _ => rfl) rfl (slices_Clone_int_intG) mixed (ann := .z) (AllS.all (l := []) (by kernel_rfl) trivial) (Nat.le_of_ble_eq_true (by kernel_rfl)) (by kernel_rfl) (fun a => by kernel_rfl)

/-! (*casebook/matrix.reduced).clear -/

def matrix_reduced_clear'R_ : Shp := ⟨[], [.cs 67 4 1 (.cons (.own 1) (.cons (.own 2) (.cons (.d true (.int .i64)) (.cons (.d true (.int .i64)) .nil)))), .arr 32 .own [3] (.slice (.int .i64)), .arr 3 (.fz true) [0] (.int .i64)]⟩

noncomputable abbrev matrix_reduced_clear'X : Ctx ((Int × Int × (List (List Int)) × (List Int))) := ⟨72, tt, true, [true, true, true], gam [], lam [loopSumm ((Int × Int × (List (List Int)) × (List Int))) 72 [true, true, true] matrix_reduced_clear'L0I (C := (Int × Int × Nat × Int × Nat × Int × Int × Int × Int × Int × Int × (List Int))) (S := (Int × (List (List Int)))) (fun (x : ((Unit × Int × Int × Nat × Int × Nat × Int × Unit × Int × Int × Int × Int × Unit) × ((Unit × Unit × Int × Int × Unit) × (List (List Int)) × (List Int) × Unit))) => ((x.1.2.1, x.1.2.2.1, x.1.2.2.2.1, x.1.2.2.2.2.1, x.1.2.2.2.2.2.1, x.1.2.2.2.2.2.2.1, x.1.2.2.2.2.2.2.2.2.1, x.1.2.2.2.2.2.2.2.2.2.1, x.1.2.2.2.2.2.2.2.2.2.2.1, x.2.1.2.2.1, x.2.1.2.2.2.1, x.2.2.2.1), (x.1.2.2.2.2.2.2.2.2.2.2.2.1, x.2.2.1))) matrix_reduced_clear'L0E (CE := (Int × Int × Nat × Int × Int × Int × Int × Int × (List Int))) (E := (List (List Int))) (fun (c : (Int × Int × Nat × Int × Int × Int × Int × Int × (List Int))) (e : (List (List Int))) => (((), c.1, c.2.1, c.2.2.1, c.2.2.2.1, (), c.2.2.2.2.1, c.2.2.2.2.2.1, ()), (((), (), c.2.2.2.2.2.2.1, c.2.2.2.2.2.2.2.1, ()), e, c.2.2.2.2.2.2.2.2, ()))) (fun (c : (Int × Int × Nat × Int × Nat × Int × Int × Int × Int × Int × Int × (List Int))) => (c.1, c.2.1, c.2.2.1, c.2.2.2.1, c.2.2.2.2.2.2.1, c.2.2.2.2.2.2.2.1, c.2.2.2.2.2.2.2.2.2.1, c.2.2.2.2.2.2.2.2.2.2.1, c.2.2.2.2.2.2.2.2.2.2.2)) (fun {R} c a nx dn rt => matrix_reduced_clear'L0K c.1 c.2.1 c.2.2.1 c.2.2.2.1 c.2.2.2.2.1 c.2.2.2.2.2.1 c.2.2.2.2.2.2.1 c.2.2.2.2.2.2.2.1 c.2.2.2.2.2.2.2.2.1 c.2.2.2.2.2.2.2.2.2.1 c.2.2.2.2.2.2.2.2.2.2.1 c.2.2.2.2.2.2.2.2.2.2.2 a.1 a.2 nx dn rt),
  loopSumm ((Int × Int × (List (List Int)) × (List Int))) 72 [true, true, true] matrix_reduced_clear'L1I (C := (Int × Int × Nat × Int × Int × Int × Int × (List Int))) (S := (Int × (List (List Int)))) (fun (x : ((Unit × Int × Int × Nat × Int × Unit × Int × Int × Unit) × ((Unit × Unit × Int × Int × Unit) × (List (List Int)) × (List Int) × Unit))) => ((x.1.2.1, x.1.2.2.1, x.1.2.2.2.1, x.1.2.2.2.2.1, x.1.2.2.2.2.2.2.1, x.2.1.2.2.1, x.2.1.2.2.2.1, x.2.2.2.1), (x.1.2.2.2.2.2.2.2.1, x.2.2.1))) matrix_reduced_clear'L1E (CE := (Int × Int × Int × (List Int))) (E := (List (List Int))) (fun (c : (Int × Int × Int × (List Int))) (e : (List (List Int))) => (((), c.1, ()), (((), (), c.2.1, c.2.2.1, ()), e, c.2.2.2, ()))) (fun (c : (Int × Int × Nat × Int × Int × Int × Int × (List Int))) => (c.2.2.2.1, c.2.2.2.2.2.1, c.2.2.2.2.2.2.1, c.2.2.2.2.2.2.2)) (fun {R} c a nx dn rt => matrix_reduced_clear'L1K c.1 c.2.1 c.2.2.1 c.2.2.2.1 c.2.2.2.2.1 c.2.2.2.2.2.1 c.2.2.2.2.2.2.1 c.2.2.2.2.2.2.2 a.1 a.2 nx dn rt)], resU 72 tt [true, true, true] [] matrix_reduced_clear'R_ (fun (x : ((Unit) × ((Unit × Unit × Int × Int × Unit) × (List (List Int)) × (List Int) × Unit))) => (x.2.1.2.2.1, x.2.1.2.2.2.1, x.2.2.1, x.2.2.2.1))⟩

theorem matrix_reduced_clear'G : CtxOK Try.prog matrix_reduced_clear'X := ⟨fits, gam_ok (AllM.all (l := []) trivial)⟩

theorem matrix_reduced_clear'S0 : SummOK Try.prog matrix_reduced_clear'X 0 (.block 2 (.loop (subC (bodyOf Try.f59) [true, true, false, true, false, false, true, true, false, false, true, true, true, true, false, false]))) :=
  loop_ok (shI := matrix_reduced_clear'L0I) (shE := matrix_reduced_clear'L0E) (C := (Int × Int × Nat × Int × Nat × Int × Int × Int × Int × Int × Int × (List Int))) (S := (Int × (List (List Int)))) (CE := (Int × Int × Nat × Int × Int × Int × Int × Int × (List Int))) (E := (List (List Int))) (matrix_reduced_clear'G) mixed (ann := (.two .z (.two .z (.two (.one (.two .z (.d [0, 0, 0, 0, 0, 24, 56, 124, 0, 0, 0, 1536, 3584, 7936, 16380, 0, 32768, 98304, 229376, 524284, 1048575, 2097151] [21] []))) .z)))) (AllS.all (l := []) (by kernel_rfl) trivial) (mk := (fun (c : (Int × Int × Nat × Int × Nat × Int × Int × Int × Int × Int × Int × (List Int))) (a : (Int × (List (List Int)))) => (((), c.1, c.2.1, c.2.2.1, c.2.2.2.1, c.2.2.2.2.1, c.2.2.2.2.2.1, (), c.2.2.2.2.2.2.1, c.2.2.2.2.2.2.2.1, c.2.2.2.2.2.2.2.2.1, a.1, ()), (((), (), c.2.2.2.2.2.2.2.2.2.1, c.2.2.2.2.2.2.2.2.2.2.1, ()), a.2, c.2.2.2.2.2.2.2.2.2.2.2, ())))) (unE := (fun (y : ((Unit × Int × Int × Nat × Int × Unit × Int × Int × Unit) × ((Unit × Unit × Int × Int × Unit) × (List (List Int)) × (List Int) × Unit))) => ((y.1.2.1, y.1.2.2.1, y.1.2.2.2.1, y.1.2.2.2.2.1, y.1.2.2.2.2.2.2.1, y.1.2.2.2.2.2.2.2.1, y.2.1.2.2.1, y.2.1.2.2.2.1, y.2.2.2.1), y.2.2.1))) rfl (fun _ => rfl) (fun _ => rfl) (fun R K D T c a => by kernel_rfl)

theorem matrix_reduced_clear'S1 : SummOK Try.prog matrix_reduced_clear'X 1 (.block 0 (.loop (subC (bodyOf Try.f59) [true, true, false, true, false, false]))) :=
  loop_ok (shI := matrix_reduced_clear'L1I) (shE := matrix_reduced_clear'L1E) (C := (Int × Int × Nat × Int × Int × Int × Int × (List Int))) (S := (Int × (List (List Int)))) (CE := (Int × Int × Int × (List Int))) (E := (List (List Int))) (matrix_reduced_clear'G) mixed (ann := (.two .z (.two .z (.two (.one (.two .z (.two .z (.two .z (.two .z (.s 0)))))) .z)))) (AllS.all (l := [(0, .block 2 (.loop (subC (bodyOf Try.f59) [true, true, false, true, false, false, true, true, false, false, true, true, true, true, false, false])))]) (by kernel_rfl) ⟨matrix_reduced_clear'S0, trivial⟩) (mk := (fun (c : (Int × Int × Nat × Int × Int × Int × Int × (List Int))) (a : (Int × (List (List Int)))) => (((), c.1, c.2.1, c.2.2.1, c.2.2.2.1, (), c.2.2.2.2.1, a.1, ()), (((), (), c.2.2.2.2.2.1, c.2.2.2.2.2.2.1, ()), a.2, c.2.2.2.2.2.2.2, ())))) (unE := (fun (y : ((Unit × Int × Unit) × ((Unit × Unit × Int × Int × Unit) × (List (List Int)) × (List Int) × Unit))) => ((y.1.2.1, y.2.1.2.2.1, y.2.1.2.2.2.1, y.2.2.2.1), y.2.2.1))) rfl (fun _ => rfl) (fun _ => rfl) (fun R K D T c a => by kernel_rfl)

noncomputable abbrev matrix_reduced_clear'M : Mdl := (mdlOf (.cons (.ptr 0) (.cons (.d false (.int .i64)) (.cons (.d false (.int .i64)) .nil))) [.cs 67 4 1 (.cons (.own 1) (.cons (.own 2) (.cons (.d false (.int .i64)) (.cons (.d false (.int .i64)) .nil)))), .arr 32 .own [3] (.slice (.int .i64)), .arr 3 (.fz true) [0] (.int .i64)] [true, true, true] 0 matrix_reduced_clear'R_ (fun (b : (Int × Int × (List (List Int)) × (List Int))) => ((()), (((), (), b.1, b.2.1, ()), b.2.2.1, b.2.2.2, ()))) (fun (a : ((Unit × Int × Int × Unit) × ((Unit × Unit × Int × Int × Unit) × (List (List Int)) × (List Int) × Unit))) => matrix_reduced_clear' a.1.2.1 a.1.2.2.1 a.2.1.2.2.1 a.2.1.2.2.2.1 a.2.2.1 a.2.2.2.1))

theorem matrix_reduced_clear'_ok : MdlOK Try.prog 59 matrix_reduced_clear'M :=
  fn_ok (c := (bodyOf Try.f59)) Try.func59 (by rfl) (by kernel_rfl) (X := matrix_reduced_clear'X) (by kernel_rfl) (rs := []) (by kernel_rfl) (sh := matrix_reduced_clear'R_) (un := (fun (x : ((Unit) × ((Unit × Unit × Int × Int × Unit) × (List (List Int)) × (List Int) × Unit))) => (x.2.1.2.2.1, x.2.1.2.2.2.1, x.2.2.1, x.2.2.2.1))) (mk := (fun (b : (Int × Int × (List (List Int)) × (List Int))) => ((()), (((), (), b.1, b.2.1, ()), b.2.2.1, b.2.2.2, ())))) (fun _ => rfl) rfl (matrix_reduced_clear'G) mixed (ann := (.two .z (.two .z (.two (.two .z (.s 1)) .z)))) (AllS.all (l := [(1, .block 0 (.loop (subC (bodyOf Try.f59) [true, true, false, true, false, false])))]) (by kernel_rfl) ⟨matrix_reduced_clear'S1, trivial⟩) (Nat.le_of_ble_eq_true (by kernel_rfl)) (by kernel_rfl) (fun a => by kernel_rfl)

/-! casebook/matrix.reduce -/

def matrix_reduceR_ : Shp := ⟨[(0, .d true Casebookref05Form.ty)], []⟩

noncomputable abbrev matrix_reduceX : Ctx (Casebookref05Form) := ⟨102, tt, true, [], gam [(43, slices_Clone_int_intM), (59, matrix_reduced_clear'M)], lam [loopSumm (Casebookref05Form) 102 [] matrix_reduceL0I (C := (Int × (List (List Int)) × Int × (List (List Int)) × (List Int) × Int × Int × Int × Int × (List Int))) (S := (Int × (List (List Int)))) (fun (x : ((Int × Unit × Unit × (List (List Int)) × Int × Int × Unit) × (((List (List Int)) × (List Int) × Int × Int × Unit) × (Unit × Unit × Int × Int × Unit) × (List (List Int)) × (List Int) × Unit))) => ((x.1.1, x.1.2.2.2.1, x.1.2.2.2.2.1, x.2.1.1, x.2.1.2.1, x.2.1.2.2.1, x.2.1.2.2.2.1, x.2.2.1.2.2.1, x.2.2.1.2.2.2.1, x.2.2.2.2.1), (x.1.2.2.2.2.2.1, x.2.2.2.1))) matrix_reduceL0E (CE := (Int × (List (List Int)) × (List Int) × Int × Int × Int × Int × (List Int))) (E := (List (List Int))) (fun (c : (Int × (List (List Int)) × (List Int) × Int × Int × Int × Int × (List Int))) (e : (List (List Int))) => ((c.1, (), (), ()), ((c.2.1, c.2.2.1, c.2.2.2.1, c.2.2.2.2.1, ()), ((), (), c.2.2.2.2.2.1, c.2.2.2.2.2.2.1, ()), e, c.2.2.2.2.2.2.2, ()))) (fun (c : (Int × (List (List Int)) × Int × (List (List Int)) × (List Int) × Int × Int × Int × Int × (List Int))) => (c.1, c.2.2.2.1, c.2.2.2.2.1, c.2.2.2.2.2.1, c.2.2.2.2.2.2.1, c.2.2.2.2.2.2.2.1, c.2.2.2.2.2.2.2.2.1, c.2.2.2.2.2.2.2.2.2)) (fun {R} c a nx dn rt => matrix_reduceL0K c.1 c.2.1 c.2.2.1 c.2.2.2.1 c.2.2.2.2.1 c.2.2.2.2.2.1 c.2.2.2.2.2.2.1 c.2.2.2.2.2.2.2.1 c.2.2.2.2.2.2.2.2.1 c.2.2.2.2.2.2.2.2.2 a.1 a.2 nx dn rt),
  loopSumm (Casebookref05Form) 102 [] matrix_reduceL1I (C := (Int × Int × Int × (List (List Int)) × (List Int) × Int × Int × Int × Int × (List (List Int)) × (List Int))) (S := Int) (fun (x : ((Int × Unit × Unit × Int × Int × Int × Unit) × (((List (List Int)) × (List Int) × Int × Int × Unit) × (Unit × Unit × Int × Int × Unit) × (List (List Int)) × (List Int) × Unit))) => ((x.1.1, x.1.2.2.2.1, x.1.2.2.2.2.1, x.2.1.1, x.2.1.2.1, x.2.1.2.2.1, x.2.1.2.2.2.1, x.2.2.1.2.2.1, x.2.2.1.2.2.2.1, x.2.2.2.1, x.2.2.2.2.1), x.1.2.2.2.2.2.1)) matrix_reduceL1E (CE := (Int × Int × Int × (List (List Int)) × (List Int) × Int × Int × Int × Int × (List (List Int)) × (List Int))) (E := Int) (fun (c : (Int × Int × Int × (List (List Int)) × (List Int) × Int × Int × Int × Int × (List (List Int)) × (List Int))) (e : Int) => ((c.1, (), (), c.2.1, c.2.2.1, e, ()), ((c.2.2.2.1, c.2.2.2.2.1, c.2.2.2.2.2.1, c.2.2.2.2.2.2.1, ()), ((), (), c.2.2.2.2.2.2.2.1, c.2.2.2.2.2.2.2.2.1, ()), c.2.2.2.2.2.2.2.2.2.1, c.2.2.2.2.2.2.2.2.2.2, ()))) (fun (c : (Int × Int × Int × (List (List Int)) × (List Int) × Int × Int × Int × Int × (List (List Int)) × (List Int))) => (c.1, c.2.1, c.2.2.1, c.2.2.2.1, c.2.2.2.2.1, c.2.2.2.2.2.1, c.2.2.2.2.2.2.1, c.2.2.2.2.2.2.2.1, c.2.2.2.2.2.2.2.2.1, c.2.2.2.2.2.2.2.2.2.1, c.2.2.2.2.2.2.2.2.2.2)) (fun {R} c a nx dn rt => matrix_reduceL1K c.1 c.2.1 c.2.2.1 c.2.2.2.1 c.2.2.2.2.1 c.2.2.2.2.2.1 c.2.2.2.2.2.2.1 c.2.2.2.2.2.2.2.1 c.2.2.2.2.2.2.2.2.1 c.2.2.2.2.2.2.2.2.2.1 c.2.2.2.2.2.2.2.2.2.2 a nx dn rt),
  loopSumm (Casebookref05Form) 102 [] matrix_reduceL2I (C := (Int × (List (List Int)) × (List Int) × Int × Int)) (S := (Int × Int × Int × (List (List Int)) × (List Int))) (fun (x : ((Int × Unit × Unit × Int × Unit) × (((List (List Int)) × (List Int) × Int × Int × Unit) × (Unit × Unit × Int × Int × Unit) × (List (List Int)) × (List Int) × Unit))) => ((x.1.1, x.2.1.1, x.2.1.2.1, x.2.1.2.2.1, x.2.1.2.2.2.1), (x.1.2.2.2.1, x.2.2.1.2.2.1, x.2.2.1.2.2.2.1, x.2.2.2.1, x.2.2.2.2.1))) matrix_reduceL2E (CE := ((List (List Int)) × (List Int) × Int × Int)) (E := (Int × Int × (List (List Int)) × (List Int))) (fun (c : ((List (List Int)) × (List Int) × Int × Int)) (e : (Int × Int × (List (List Int)) × (List Int))) => (((), (), ()), ((c.1, c.2.1, c.2.2.1, c.2.2.2, ()), ((), (), e.1, e.2.1, ()), e.2.2.1, e.2.2.2, ()))) (fun (c : (Int × (List (List Int)) × (List Int) × Int × Int)) => (c.2.1, c.2.2.1, c.2.2.2.1, c.2.2.2.2)) (fun {R} c a nx dn rt => matrix_reduceL2K c.1 c.2.1 c.2.2.1 c.2.2.2.1 c.2.2.2.2 a.1 a.2.1 a.2.2.1 a.2.2.2.1 a.2.2.2.2 nx dn rt)], resU 102 tt [] [.cell 4 67] matrix_reduceR_ (fun (x : ((Casebookref05Form × Unit) × (Unit))) => x.1.1)⟩

theorem matrix_reduceG : CtxOK Try.prog matrix_reduceX := ⟨fits, gam_ok (AllM.all (l := [(43, slices_Clone_int_intM), (59, matrix_reduced_clear'M)]) ⟨slices_Clone_int_int_ok, matrix_reduced_clear'_ok, trivial⟩)⟩

theorem matrix_reduceS1 : SummOK Try.prog matrix_reduceX 1 (.block 4 (.loop (subC (bodyOf Try.f44) [true, true, true, false, true, false, false, true, false, false, true, true, false, false, false]))) :=
  loop_ok (shI := matrix_reduceL1I) (shE := matrix_reduceL1E) (C := (Int × Int × Int × (List (List Int)) × (List Int) × Int × Int × Int × Int × (List (List Int)) × (List Int))) (S := Int) (CE := (Int × Int × Int × (List (List Int)) × (List Int) × Int × Int × Int × Int × (List (List Int)) × (List Int))) (E := Int) (matrix_reduceG) mixed (ann := .z) (AllS.all (l := []) (by kernel_rfl) trivial) (mk := (fun (c : (Int × Int × Int × (List (List Int)) × (List Int) × Int × Int × Int × Int × (List (List Int)) × (List Int))) (a : Int) => ((c.1, (), (), c.2.1, c.2.2.1, a, ()), ((c.2.2.2.1, c.2.2.2.2.1, c.2.2.2.2.2.1, c.2.2.2.2.2.2.1, ()), ((), (), c.2.2.2.2.2.2.2.1, c.2.2.2.2.2.2.2.2.1, ()), c.2.2.2.2.2.2.2.2.2.1, c.2.2.2.2.2.2.2.2.2.2, ())))) (unE := (fun (y : ((Int × Unit × Unit × Int × Int × Int × Unit) × (((List (List Int)) × (List Int) × Int × Int × Unit) × (Unit × Unit × Int × Int × Unit) × (List (List Int)) × (List Int) × Unit))) => ((y.1.1, y.1.2.2.2.1, y.1.2.2.2.2.1, y.2.1.1, y.2.1.2.1, y.2.1.2.2.1, y.2.1.2.2.2.1, y.2.2.1.2.2.1, y.2.2.1.2.2.2.1, y.2.2.2.1, y.2.2.2.2.1), y.1.2.2.2.2.2.1))) rfl (fun _ => rfl) (fun _ => rfl) (fun R K D T c a => by kernel_rfl)

theorem matrix_reduceS2 : SummOK Try.prog matrix_reduceX 2 (.block 2 (.loop (subC (bodyOf Try.f44) [true, true, true, false, true, false, false]))) :=
  loop_ok (shI := matrix_reduceL2I) (shE := matrix_reduceL2E) (C := (Int × (List (List Int)) × (List Int) × Int × Int)) (S := (Int × Int × Int × (List (List Int)) × (List Int))) (CE := ((List (List Int)) × (List Int) × Int × Int)) (E := (Int × Int × (List (List Int)) × (List Int))) (matrix_reduceG) mixed (ann := (.two .z (.two (.one (.two .z (.two .z (.two (.s 1) (.two .z (.two (.two .z (.two (.two (.d [0, 1, 0, 0, 8, 0, 0, 64, 0, 448, 960, 0, 2048, 0, 14336, 30720, 65503, 131039, 262143, 524287] [17, 18, 19] [2]) .z) .z)) .z)))))) .z))) (AllS.all (l := [(1, .block 4 (.loop (subC (bodyOf Try.f44) [true, true, true, false, true, false, false, true, false, false, true, true, false, false, false])))]) (by kernel_rfl) ⟨matrix_reduceS1, trivial⟩) (mk := (fun (c : (Int × (List (List Int)) × (List Int) × Int × Int)) (a : (Int × Int × Int × (List (List Int)) × (List Int))) => ((c.1, (), (), a.1, ()), ((c.2.1, c.2.2.1, c.2.2.2.1, c.2.2.2.2, ()), ((), (), a.2.1, a.2.2.1, ()), a.2.2.2.1, a.2.2.2.2, ())))) (unE := (fun (y : ((Unit × Unit × Unit) × (((List (List Int)) × (List Int) × Int × Int × Unit) × (Unit × Unit × Int × Int × Unit) × (List (List Int)) × (List Int) × Unit))) => ((y.2.1.1, y.2.1.2.1, y.2.1.2.2.1, y.2.1.2.2.2.1), (y.2.2.1.2.2.1, y.2.2.1.2.2.2.1, y.2.2.2.1, y.2.2.2.2.1)))) rfl (fun _ => rfl) (fun _ => rfl) (fun R K D T c a => by kernel_rfl)

theorem matrix_reduceS0 : SummOK Try.prog matrix_reduceX 0 (.block 0 (.loop (subC (bodyOf Try.f44) [true, true, false, true, false, false]))) :=
  loop_ok (shI := matrix_reduceL0I) (shE := matrix_reduceL0E) (C := (Int × (List (List Int)) × Int × (List (List Int)) × (List Int) × Int × Int × Int × Int × (List Int))) (S := (Int × (List (List Int)))) (CE := (Int × (List (List Int)) × (List Int) × Int × Int × Int × Int × (List Int))) (E := (List (List Int))) (matrix_reduceG) mixed (ann := (.two .z (.two .z (.two (.one (.two .z (.d [0, 1, 0, 4, 12, 31, 63, 127] [5, 7] []))) .z)))) (AllS.all (l := []) (by kernel_rfl) trivial) (mk := (fun (c : (Int × (List (List Int)) × Int × (List (List Int)) × (List Int) × Int × Int × Int × Int × (List Int))) (a : (Int × (List (List Int)))) => ((c.1, (), (), c.2.1, c.2.2.1, a.1, ()), ((c.2.2.2.1, c.2.2.2.2.1, c.2.2.2.2.2.1, c.2.2.2.2.2.2.1, ()), ((), (), c.2.2.2.2.2.2.2.1, c.2.2.2.2.2.2.2.2.1, ()), a.2, c.2.2.2.2.2.2.2.2.2, ())))) (unE := (fun (y : ((Int × Unit × Unit × Unit) × (((List (List Int)) × (List Int) × Int × Int × Unit) × (Unit × Unit × Int × Int × Unit) × (List (List Int)) × (List Int) × Unit))) => ((y.1.1, y.2.1.1, y.2.1.2.1, y.2.1.2.2.1, y.2.1.2.2.2.1, y.2.2.1.2.2.1, y.2.2.1.2.2.2.1, y.2.2.2.2.1), y.2.2.2.1))) rfl (fun _ => rfl) (fun _ => rfl) (fun R K D T c a => by kernel_rfl)

noncomputable abbrev matrix_reduceM : Mdl := (mdlOf (.cons (.d false (.slice (.slice (.int .i64)))) (.cons (.d false (.int .i64)) .nil)) [] [] 1 matrix_reduceR_ (fun (b : Casebookref05Form) => ((b, ()), (()))) (fun (a : (((List (List Int)) × Int × Unit) × (Unit))) => matrix_reduce a.1.1 a.1.2.1))

theorem matrix_reduce_ok : MdlOK Try.prog 44 matrix_reduceM :=
  fn_ok (c := (bodyOf Try.f44)) Try.func44 (by rfl) (by kernel_rfl) (X := matrix_reduceX) (by kernel_rfl) (rs := [.cell 4 67]) (by kernel_rfl) (sh := matrix_reduceR_) (un := (fun (x : ((Casebookref05Form × Unit) × (Unit))) => x.1.1)) (mk := (fun (b : Casebookref05Form) => ((b, ()), (())))) (fun _ => rfl) rfl (matrix_reduceG) mixed (ann := (.two .z (.two .z (.two (.two .z (.s 0)) (.two (.two .z (.s 2)) .z))))) (AllS.all (l := [(0, .block 0 (.loop (subC (bodyOf Try.f44) [true, true, false, true, false, false]))), (2, .block 2 (.loop (subC (bodyOf Try.f44) [true, true, true, false, true, false, false])))]) (by kernel_rfl) ⟨matrix_reduceS0, matrix_reduceS2, trivial⟩) (Nat.le_of_ble_eq_true (by kernel_rfl)) (by kernel_rfl) (fun a => by kernel_rfl)

/-! casebook/matrix.Rank -/

def matrix_RankR_ : Shp := ⟨[(0, .d true (.int .i64)), (1, .d true (.int .i64))], []⟩

noncomputable abbrev matrix_RankX : Ctx ((Int × Int)) := ⟨20, tt, false, [], gam [(36, matrix_ValidM), (38, matrix_smallM), (44, matrix_reduceM)], lam [], resU 20 tt [] [.tmp 2, .tmp 3] matrix_RankR_ (fun (x : ((Int × Int × Unit) × (Unit))) => (x.1.1, x.1.2.1))⟩

theorem matrix_RankG : CtxOK Try.prog matrix_RankX := ⟨fits, gam_ok (AllM.all (l := [(36, matrix_ValidM), (38, matrix_smallM), (44, matrix_reduceM)]) ⟨matrix_Valid_ok, matrix_small_ok, matrix_reduce_ok, trivial⟩)⟩

noncomputable abbrev matrix_RankM : Mdl := (mdlOf (.cons (.d false (.slice (.slice (.int .i64)))) .nil) [] [] 2 matrix_RankR_ (fun (b : (Int × Int)) => ((b.1, b.2, ()), (()))) (fun (a : (((List (List Int)) × Unit) × (Unit))) => matrix_Rank a.1.1))

theorem matrix_Rank_ok : MdlOK Try.prog 24 matrix_RankM :=
  fn_ok (c := (bodyOf Try.f24)) Try.func24 (by rfl) (by kernel_rfl) (X := matrix_RankX) (by kernel_rfl) (rs := [.tmp 2, .tmp 3]) (by kernel_rfl) (sh := matrix_RankR_) (un := (fun (x : ((Int × Int × Unit) × (Unit))) => (x.1.1, x.1.2.1))) (mk := (fun (b : (Int × Int)) => ((b.1, b.2, ()), (())))) (fun _ => rfl) rfl (matrix_RankG) mixed (ann := .z) (AllS.all (l := []) (by kernel_rfl) trivial) (Nat.le_of_ble_eq_true (by kernel_rfl)) (by kernel_rfl) (fun a => by kernel_rfl)

/-! slices.Index[[]int,int] -/

def slices_Index_int_intR_ : Shp := ⟨[(0, .d true (.int .i64))], []⟩

noncomputable abbrev slices_Index_int_intX : Ctx (Int) := ⟨19, tt, false, [], gam [], lam [loopSumm (Int) 19 [] slices_Index_int_intL0I (C := ((List Int) × Int × Int)) (S := Int) (fun (x : (((List Int) × Int × Int × Int × Unit) × (Unit))) => ((x.1.1, x.1.2.1, x.1.2.2.1), x.1.2.2.2.1)) slices_Index_int_intL0E (CE := Unit) (E := Unit) (fun (c : Unit) (e : Unit) => ((()), (()))) (fun (c : ((List Int) × Int × Int)) => ()) (fun {R} c a nx dn rt => slices_Index_int_intL0K c.1 c.2.1 c.2.2 a nx dn rt)], resU 19 tt [] [.tmp 4] slices_Index_int_intR_ (fun (x : ((Int × Unit) × (Unit))) => x.1.1)⟩

theorem slices_Index_int_intG : CtxOK Try.prog slices_Index_int_intX := ⟨fits, gam_ok (AllM.all (l := []) trivial)⟩

theorem slices_Index_int_intS0 : SummOK Try.prog slices_Index_int_intX 0 (.block 0 (.loop (subC (bodyOf Try.f65) [true, false, true, false, false]))) :=
  loop_ok (shI := slices_Index_int_intL0I) (shE := slices_Index_int_intL0E) (C := ((List Int) × Int × Int)) (S := Int) (CE := Unit) (E := Unit) (slices_Index_int_intG) mixed (ann := .z) (AllS.all (l := []) (by kernel_rfl) trivial) (mk := (fun (c : ((List Int) × Int × Int)) (a : Int) => ((c.1, c.2.1, c.2.2, a, ()), (())))) (unE := (fun (y : ((Unit) × (Unit))) => ((), ()))) rfl (fun _ => rfl) (fun _ => rfl) (fun R K D T c a => by kernel_rfl)

noncomputable abbrev slices_Index_int_intM : Mdl := (mdlOf (.cons (.d false (.slice (.int .i64))) (.cons (.d false (.int .i64)) .nil)) [] [] 1 slices_Index_int_intR_ (fun (b : Int) => ((b, ()), (()))) (fun (a : (((List Int) × Int × Unit) × (Unit))) => slices_Index_int_int a.1.1 a.1.2.1))

theorem slices_Index_int_int_ok : MdlOK Try.prog 65 slices_Index_int_intM :=
  fn_ok (c := (bodyOf Try.f65)) Try.func65 (by rfl) (by kernel_rfl) (X := slices_Index_int_intX) (by kernel_rfl) (rs := [.tmp 4]) (by kernel_rfl) (sh := slices_Index_int_intR_) (un := (fun (x : ((Int × Unit) × (Unit))) => x.1.1)) (mk := (fun (b : Int) => ((b, ()), (())))) (fun _ => rfl) rfl (slices_Index_int_intG) mixed (ann := (.two .z (.two (.two .z (.s 0)) .z))) (AllS.all (l := [(0, .block 0 (.loop (subC (bodyOf Try.f65) [true, false, true, false, false])))]) (by kernel_rfl) ⟨slices_Index_int_intS0, trivial⟩) (Nat.le_of_ble_eq_true (by kernel_rfl)) (by kernel_rfl) (fun a => by kernel_rfl)

/-! slices.Contains[[]int,int] -/

def slices_Contains_int_intR_ : Shp := ⟨[(0, .d true .bool)], []⟩

noncomputable abbrev slices_Contains_int_intX : Ctx (Bool) := ⟨9, tt, false, [], gam [(65, slices_Index_int_intM)], lam [], resU 9 tt [] [.tmp 4] slices_Contains_int_intR_ (fun (x : ((Bool × Unit) × (Unit))) => x.1.1)⟩

theorem slices_Contains_int_intG : CtxOK Try.prog slices_Contains_int_intX := ⟨fits, gam_ok (AllM.all (l := [(65, slices_Index_int_intM)]) ⟨slices_Index_int_int_ok, trivial⟩)⟩

noncomputable abbrev slices_Contains_int_intM : Mdl := (mdlOf (.cons (.d false (.slice (.int .i64))) (.cons (.d false (.int .i64)) .nil)) [] [] 1 slices_Contains_int_intR_ (fun (b : Bool) => ((b, ()), (()))) (fun (a : (((List Int) × Int × Unit) × (Unit))) => slices_Contains_int_int a.1.1 a.1.2.1))

theorem slices_Contains_int_int_ok : MdlOK Try.prog 56 slices_Contains_int_intM :=
  fn_ok (c := (bodyOf Try.f56)) Try.func56 (by rfl) (by kernel_rfl) (X := slices_Contains_int_intX) (by kernel_rfl) (rs := [.tmp 4]) (by kernel_rfl) (sh := slices_Contains_int_intR_) (un := (fun (x : ((Bool × Unit) × (Unit))) => x.1.1)) (mk := (fun (b : Bool) => ((b, ()), (())))) (fun _ => rfl) rfl (slices_Contains_int_intG) mixed (ann := .z) (AllS.all (l := []) (by kernel_rfl) trivial) (Nat.le_of_ble_eq_true (by kernel_rfl)) (by kernel_rfl) (fun a => by kernel_rfl)

/-! casebook/matrix.primitive -/

def matrix_primitiveR_ : Shp := ⟨[(0, .own 0)], [.arr 3 (.fz true) [0] (.int .i64)]⟩

noncomputable abbrev matrix_primitiveX : Ctx ((List Int)) := ⟨42, tt, true, [true], gam [(55, matrix_absM)], lam [loopSumm ((List Int)) 42 [true] matrix_primitiveL0I (C := (Int × Int × (List Int))) (S := (Int × Int)) (fun (x : ((Unit × Int × Int × Unit × Int × Int × Unit) × ((List Int) × Unit))) => ((x.1.2.2.2.2.1, x.1.2.2.2.2.2.1, x.2.1), (x.1.2.1, x.1.2.2.1))) matrix_primitiveL0E (CE := (Int × Int × (List Int))) (E := Int) (fun (c : (Int × Int × (List Int))) (e : Int) => (((), e, (), c.1, c.2.1, ()), (c.2.2, ()))) (fun (c : (Int × Int × (List Int))) => (c.1, c.2.1, c.2.2)) (fun {R} c a nx dn rt => matrix_primitiveL0K c.1 c.2.1 c.2.2 a.1 a.2 nx dn rt),
  loopSumm ((List Int)) 42 [true] matrix_primitiveL1I (C := (Int × (List Int))) (S := (Int × Int)) (fun (x : ((Unit × Int × Unit × Int × Int × Unit) × ((List Int) × Unit))) => ((x.1.2.2.2.1, x.2.1), (x.1.2.1, x.1.2.2.2.2.1))) matrix_primitiveL1E (CE := (List Int)) (E := Int) (fun (c : (List Int)) (e : Int) => (((), e, ()), (c, ()))) (fun (c : (Int × (List Int))) => c.2) (fun {R} c a nx dn rt => matrix_primitiveL1K c.1 c.2 a.1 a.2 nx dn rt),
  loopSumm ((List Int)) 42 [true] matrix_primitiveL2I (C := (Int × Int)) (S := (Int × (List Int))) (fun (x : ((Unit × Int × Int × Int × Unit) × ((List Int) × Unit))) => ((x.1.2.1, x.1.2.2.1), (x.1.2.2.2.1, x.2.1))) matrix_primitiveL2E (CE := Unit) (E := (List Int)) (fun (c : Unit) (e : (List Int)) => (((), ()), (e, ()))) (fun (c : (Int × Int)) => ()) (fun {R} c a nx dn rt => matrix_primitiveL2K c.1 c.2 a.1 a.2 nx dn rt)], resU 42 tt [true] [.tmp 2] matrix_primitiveR_ (fun (x : ((Unit × Unit) × ((List Int) × Unit))) => x.2.1)⟩

theorem matrix_primitiveG : CtxOK Try.prog matrix_primitiveX := ⟨fits, gam_ok (AllM.all (l := [(55, matrix_absM)]) ⟨matrix_abs_ok, trivial⟩)⟩

theorem matrix_primitiveS0 : SummOK Try.prog matrix_primitiveX 0 (.block 2 (.loop (subC (bodyOf Try.f57) [true, true, false, true, false, false, true, true, false, false, true, true, false, false, false]))) :=
  loop_ok (shI := matrix_primitiveL0I) (shE := matrix_primitiveL0E) (C := (Int × Int × (List Int))) (S := (Int × Int)) (CE := (Int × Int × (List Int))) (E := Int) (matrix_primitiveG) mixed (ann := (.two .z (.one (.d [0, 0, 0, 6, 3, 31] [] [])))) (AllS.all (l := []) (by kernel_rfl) trivial) (mk := (fun (c : (Int × Int × (List Int))) (a : (Int × Int)) => (((), a.1, a.2, (), c.1, c.2.1, ()), (c.2.2, ())))) (unE := (fun (y : ((Unit × Int × Unit × Int × Int × Unit) × ((List Int) × Unit))) => ((y.1.2.2.2.1, y.1.2.2.2.2.1, y.2.1), y.1.2.1))) rfl (fun _ => rfl) (fun _ => rfl) (fun R K D T c a => by kernel_rfl)

theorem matrix_primitiveS2 : SummOK Try.prog matrix_primitiveX 2 (.block 4 (.loop (subC (bodyOf Try.f57) [true, true, true, false, true, false, false]))) :=
  loop_ok (shI := matrix_primitiveL2I) (shE := matrix_primitiveL2E) (C := (Int × Int)) (S := (Int × (List Int))) (CE := Unit) (E := (List Int)) (matrix_primitiveG) mixed (ann := .z) (AllS.all (l := []) (by kernel_rfl) trivial) (mk := (fun (c : (Int × Int)) (a : (Int × (List Int))) => (((), c.1, c.2, a.1, ()), (a.2, ())))) (unE := (fun (y : ((Unit × Unit) × ((List Int) × Unit))) => ((), y.2.1))) rfl (fun _ => rfl) (fun _ => rfl) (fun R K D T c a => by kernel_rfl)

theorem matrix_primitiveS1 : SummOK Try.prog matrix_primitiveX 1 (.block 0 (.loop (subC (bodyOf Try.f57) [true, true, false, true, false, false]))) :=
  loop_ok (shI := matrix_primitiveL1I) (shE := matrix_primitiveL1E) (C := (Int × (List Int))) (S := (Int × Int)) (CE := (List Int)) (E := Int) (matrix_primitiveG) mixed (ann := (.two .z (.two .z (.two (.one (.two .z (.two .z (.two (.s 0) .z)))) .z)))) (AllS.all (l := [(0, .block 2 (.loop (subC (bodyOf Try.f57) [true, true, false, true, false, false, true, true, false, false, true, true, false, false, false])))]) (by kernel_rfl) ⟨matrix_primitiveS0, trivial⟩) (mk := (fun (c : (Int × (List Int))) (a : (Int × Int)) => (((), a.1, (), c.1, a.2, ()), (c.2, ())))) (unE := (fun (y : ((Unit × Int × Unit) × ((List Int) × Unit))) => (y.2.1, y.1.2.1))) rfl (fun _ => rfl) (fun _ => rfl) (fun R K D T c a => by kernel_rfl)

noncomputable abbrev matrix_primitiveM : Mdl := (mdlOf (.cons (.own 0) .nil) [.arr 3 (.fz true) [0] (.int .i64)] [true] 1 matrix_primitiveR_ (fun (b : (List Int)) => (((), ()), (b, ()))) (fun (a : ((Unit × Unit) × ((List Int) × Unit))) => matrix_primitive a.2.1))

theorem matrix_primitive_ok : MdlOK Try.prog 57 matrix_primitiveM :=
  fn_ok (c := (bodyOf Try.f57)) Try.func57 (by rfl) (by kernel_rfl) (X := matrix_primitiveX) (by kernel_rfl) (rs := [.tmp 2]) (by kernel_rfl) (sh := matrix_primitiveR_) (un := (fun (x : ((Unit × Unit) × ((List Int) × Unit))) => x.2.1)) (mk := (fun (b : (List Int)) => (((), ()), (b, ())))) (fun _ => rfl) rfl (matrix_primitiveG) mixed (ann := (.two .z (.two .z (.two (.two .z (.s 1)) (.two (.two .z (.s 2)) .z))))) (AllS.all (l := [(1, .block 0 (.loop (subC (bodyOf Try.f57) [true, true, false, true, false, false]))), (2, .block 4 (.loop (subC (bodyOf Try.f57) [true, true, true, false, true, false, false])))]) (by kernel_rfl) ⟨matrix_primitiveS1, matrix_primitiveS2, trivial⟩) (Nat.le_of_ble_eq_true (by kernel_rfl)) (by kernel_rfl) (fun a => by kernel_rfl)

/-! casebook/matrix.kernel -/

def matrix_kernelR_ : Shp := ⟨[(0, .own 0)], [.arr 32 .own [3] (.slice (.int .i64))]⟩

noncomputable abbrev matrix_kernelX : Ctx ((List (List Int))) := ⟨75, tt, true, [], gam [(44, matrix_reduceM), (56, slices_Contains_int_intM), (55, matrix_absM), (57, matrix_primitiveM)], lam [loopSumm ((List (List Int))) 75 [] matrix_kernelL0I (C := (Int × Int × Int × Int × (List Int) × Int × (List (List Int)) × (List Int) × Int × Int × (List (List Int)))) (S := (Int × (List Int))) (fun (x : ((Int × Unit × Unit × Int × Unit × Int × Int × (List Int) × Int × Int × Unit) × (((List (List Int)) × (List Int) × Int × Int × Unit) × (List (List Int)) × (List Int) × Unit))) => ((x.1.1, x.1.2.2.2.1, x.1.2.2.2.2.2.1, x.1.2.2.2.2.2.2.1, x.1.2.2.2.2.2.2.2.1, x.1.2.2.2.2.2.2.2.2.1, x.2.1.1, x.2.1.2.1, x.2.1.2.2.1, x.2.1.2.2.2.1, x.2.2.1), (x.1.2.2.2.2.2.2.2.2.2.1, x.2.2.2.1))) matrix_kernelL0E (CE := (Int × Int × Int × (List (List Int)) × (List Int) × Int × Int × (List (List Int)))) (E := (List Int)) (fun (c : (Int × Int × Int × (List (List Int)) × (List Int) × Int × Int × (List (List Int)))) (e : (List Int)) => ((c.1, (), (), (), c.2.1, c.2.2.1, ()), ((c.2.2.2.1, c.2.2.2.2.1, c.2.2.2.2.2.1, c.2.2.2.2.2.2.1, ()), c.2.2.2.2.2.2.2, e, ()))) (fun (c : (Int × Int × Int × Int × (List Int) × Int × (List (List Int)) × (List Int) × Int × Int × (List (List Int)))) => (c.1, c.2.2.1, c.2.2.2.1, c.2.2.2.2.2.2.1, c.2.2.2.2.2.2.2.1, c.2.2.2.2.2.2.2.2.1, c.2.2.2.2.2.2.2.2.2.1, c.2.2.2.2.2.2.2.2.2.2)) (fun {R} c a nx dn rt => matrix_kernelL0K c.1 c.2.1 c.2.2.1 c.2.2.2.1 c.2.2.2.2.1 c.2.2.2.2.2.1 c.2.2.2.2.2.2.1 c.2.2.2.2.2.2.2.1 c.2.2.2.2.2.2.2.2.1 c.2.2.2.2.2.2.2.2.2.1 c.2.2.2.2.2.2.2.2.2.2 a.1 a.2 nx dn rt),
  loopSumm ((List (List Int))) 75 [] matrix_kernelL1I (C := (Int × Int × (List (List Int)) × (List Int) × Int × Int)) (S := (Int × (List (List Int)))) (fun (x : ((Int × Unit × Unit × Int × Int × Unit) × (((List (List Int)) × (List Int) × Int × Int × Unit) × (List (List Int)) × Unit))) => ((x.1.1, x.1.2.2.2.1, x.2.1.1, x.2.1.2.1, x.2.1.2.2.1, x.2.1.2.2.2.1), (x.1.2.2.2.2.1, x.2.2.1))) matrix_kernelL1E (CE := Unit) (E := (List (List Int))) (fun (c : Unit) (e : (List (List Int))) => (((), ()), (e, ()))) (fun (c : (Int × Int × (List (List Int)) × (List Int) × Int × Int)) => ()) (fun {R} c a nx dn rt => matrix_kernelL1K c.1 c.2.1 c.2.2.1 c.2.2.2.1 c.2.2.2.2.1 c.2.2.2.2.2 a.1 a.2 nx dn rt)], resU 75 tt [] [.tmp 2] matrix_kernelR_ (fun (x : ((Unit × Unit) × ((List (List Int)) × Unit))) => x.2.1)⟩

theorem matrix_kernelG : CtxOK Try.prog matrix_kernelX := ⟨fits, gam_ok (AllM.all (l := [(44, matrix_reduceM), (56, slices_Contains_int_intM), (55, matrix_absM), (57, matrix_primitiveM)]) ⟨matrix_reduce_ok, slices_Contains_int_int_ok, matrix_abs_ok, matrix_primitive_ok, trivial⟩)⟩

theorem matrix_kernelS0 : SummOK Try.prog matrix_kernelX 0 (.block 2 (.loop (subC (bodyOf Try.f39) [true, true, true, true, false, true, false, false, true, true, false, false, true, true, true, true, false, true, false, false]))) :=
  loop_ok (shI := matrix_kernelL0I) (shE := matrix_kernelL0E) (C := (Int × Int × Int × Int × (List Int) × Int × (List (List Int)) × (List Int) × Int × Int × (List (List Int)))) (S := (Int × (List Int))) (CE := (Int × Int × Int × (List (List Int)) × (List Int) × Int × Int × (List (List Int)))) (E := (List Int)) (matrix_kernelG) mixed (ann := .z) (AllS.all (l := []) (by kernel_rfl) trivial) (mk := (fun (c : (Int × Int × Int × Int × (List Int) × Int × (List (List Int)) × (List Int) × Int × Int × (List (List Int)))) (a : (Int × (List Int))) => ((c.1, (), (), c.2.1, (), c.2.2.1, c.2.2.2.1, c.2.2.2.2.1, c.2.2.2.2.2.1, a.1, ()), ((c.2.2.2.2.2.2.1, c.2.2.2.2.2.2.2.1, c.2.2.2.2.2.2.2.2.1, c.2.2.2.2.2.2.2.2.2.1, ()), c.2.2.2.2.2.2.2.2.2.2, a.2, ())))) (unE := (fun (y : ((Int × Unit × Unit × Unit × Int × Int × Unit) × (((List (List Int)) × (List Int) × Int × Int × Unit) × (List (List Int)) × (List Int) × Unit))) => ((y.1.1, y.1.2.2.2.2.1, y.1.2.2.2.2.2.1, y.2.1.1, y.2.1.2.1, y.2.1.2.2.1, y.2.1.2.2.2.1, y.2.2.1), y.2.2.2.1))) rfl (fun _ => rfl) (fun _ => rfl) (fun R K D T c a => by kernel_rfl)

theorem matrix_kernelS1 : SummOK Try.prog matrix_kernelX 1 (.block 0 (.loop (subC (bodyOf Try.f39) [true, true, true, true, false, true, false, false]))) :=
  loop_ok (shI := matrix_kernelL1I) (shE := matrix_kernelL1E) (C := (Int × Int × (List (List Int)) × (List Int) × Int × Int)) (S := (Int × (List (List Int)))) (CE := Unit) (E := (List (List Int))) (matrix_kernelG) mixed (ann := (.two .z (.two .z (.two (.one (.two .z (.two .z (.two .z (.two .z (.two (.two .z (.s 0)) .z)))))) .z)))) (AllS.all (l := [(0, .block 2 (.loop (subC (bodyOf Try.f39) [true, true, true, true, false, true, false, false, true, true, false, false, true, true, true, true, false, true, false, false])))]) (by kernel_rfl) ⟨matrix_kernelS0, trivial⟩) (mk := (fun (c : (Int × Int × (List (List Int)) × (List Int) × Int × Int)) (a : (Int × (List (List Int)))) => ((c.1, (), (), c.2.1, a.1, ()), ((c.2.2.1, c.2.2.2.1, c.2.2.2.2.1, c.2.2.2.2.2, ()), a.2, ())))) (unE := (fun (y : ((Unit × Unit) × ((List (List Int)) × Unit))) => ((), y.2.1))) rfl (fun _ => rfl) (fun _ => rfl) (fun R K D T c a => by kernel_rfl)

noncomputable abbrev matrix_kernelM : Mdl := (mdlOf (.cons (.d false (.slice (.slice (.int .i64)))) .nil) [] [] 1 matrix_kernelR_ (fun (b : (List (List Int))) => (((), ()), (b, ()))) (fun (a : (((List (List Int)) × Unit) × (Unit))) => matrix_kernel a.1.1))

theorem matrix_kernel_ok : MdlOK Try.prog 39 matrix_kernelM :=
  fn_ok (c := (bodyOf Try.f39)) Try.func39 (by rfl) (by kernel_rfl) (X := matrix_kernelX) (by kernel_rfl) (rs := [.tmp 2]) (by kernel_rfl) (sh := matrix_kernelR_) (un := (fun (x : ((Unit × Unit) × ((List (List Int)) × Unit))) => x.2.1)) (mk := (fun (b : (List (List Int))) => (((), ()), (b, ())))) (fun _ => rfl) rfl (matrix_kernelG) mixed (ann := (.two .z (.two .z (.two .z (.two .z (.two (.two .z (.s 1)) .z)))))) (AllS.all (l := [(1, .block 0 (.loop (subC (bodyOf Try.f39) [true, true, true, true, false, true, false, false])))]) (by kernel_rfl) ⟨matrix_kernelS1, trivial⟩) (Nat.le_of_ble_eq_true (by kernel_rfl)) (by kernel_rfl) (fun a => by kernel_rfl)

/-! casebook/matrix.Kernel -/

def matrix_KernelR_ : Shp := ⟨[(0, .own 0), (1, .d true (.int .i64))], [.arr 32 .own [3] (.slice (.int .i64))]⟩

noncomputable abbrev matrix_KernelX : Ctx ((Int × (List (List Int)))) := ⟨14, tt, false, [], gam [(36, matrix_ValidM), (38, matrix_smallM), (39, matrix_kernelM)], lam [], resU 14 tt [] [.tmp 2, .tmp 3] matrix_KernelR_ (fun (x : ((Unit × Int × Unit) × ((List (List Int)) × Unit))) => (x.1.2.1, x.2.1))⟩

theorem matrix_KernelG : CtxOK Try.prog matrix_KernelX := ⟨fits, gam_ok (AllM.all (l := [(36, matrix_ValidM), (38, matrix_smallM), (39, matrix_kernelM)]) ⟨matrix_Valid_ok, matrix_small_ok, matrix_kernel_ok, trivial⟩)⟩

noncomputable abbrev matrix_KernelM : Mdl := (mdlOf (.cons (.d false (.slice (.slice (.int .i64)))) .nil) [] [] 2 matrix_KernelR_ (fun (b : (Int × (List (List Int)))) => (((), b.1, ()), (b.2, ()))) (fun (a : (((List (List Int)) × Unit) × (Unit))) => matrix_Kernel a.1.1))

theorem matrix_Kernel_ok : MdlOK Try.prog 13 matrix_KernelM :=
  fn_ok (c := (bodyOf Try.f13)) Try.func13 (by rfl) (by kernel_rfl) (X := matrix_KernelX) (by kernel_rfl) (rs := [.tmp 2, .tmp 3]) (by kernel_rfl) (sh := matrix_KernelR_) (un := (fun (x : ((Unit × Int × Unit) × ((List (List Int)) × Unit))) => (x.1.2.1, x.2.1))) (mk := (fun (b : (Int × (List (List Int)))) => (((), b.1, ()), (b.2, ())))) (fun _ => rfl) rfl (matrix_KernelG) mixed (ann := .z) (AllS.all (l := []) (by kernel_rfl) trivial) (Nat.le_of_ble_eq_true (by kernel_rfl)) (by kernel_rfl) (fun a => by kernel_rfl)

/-! casebook/matrix.column -/

def matrix_columnR_ : Shp := ⟨[(0, .d true .bool)], []⟩

noncomputable abbrev matrix_columnX : Ctx (Bool) := ⟨15, tt, false, [], gam [(54, matrix_entriesM)], lam [], resU 15 tt [] [.tmp 2] matrix_columnR_ (fun (x : ((Bool × Unit) × (Unit))) => x.1.1)⟩

theorem matrix_columnG : CtxOK Try.prog matrix_columnX := ⟨fits, gam_ok (AllM.all (l := [(54, matrix_entriesM)]) ⟨matrix_entries_ok, trivial⟩)⟩

noncomputable abbrev matrix_columnM : Mdl := (mdlOf (.cons (.d false (.slice (.int .i64))) .nil) [] [] 1 matrix_columnR_ (fun (b : Bool) => ((b, ()), (()))) (fun (a : (((List Int) × Unit) × (Unit))) => matrix_column a.1.1))

theorem matrix_column_ok : MdlOK Try.prog 42 matrix_columnM :=
  fn_ok (c := (bodyOf Try.f42)) Try.func42 (by rfl) (by kernel_rfl) (X := matrix_columnX) (by kernel_rfl) (rs := [.tmp 2]) (by kernel_rfl) (sh := matrix_columnR_) (un := (fun (x : ((Bool × Unit) × (Unit))) => x.1.1)) (mk := (fun (b : Bool) => ((b, ()), (())))) (fun _ => rfl) rfl (matrix_columnG) mixed (ann := .z) (AllS.all (l := []) (by kernel_rfl) trivial) (Nat.le_of_ble_eq_true (by kernel_rfl)) (by kernel_rfl) (fun a => by kernel_rfl)

/-! casebook/frac.abs -/

def frac_absR_ : Shp := ⟨[(0, .d true (.int .u64))], []⟩

noncomputable abbrev frac_absX : Ctx (Int) := ⟨10, tt, false, [], gam [], lam [], resU 10 tt [] [.tmp 2] frac_absR_ (fun (x : ((Int × Unit) × (Unit))) => x.1.1)⟩

theorem frac_absG : CtxOK Try.prog frac_absX := ⟨fits, gam_ok (AllM.all (l := []) trivial)⟩

noncomputable abbrev frac_absM : Mdl := (mdlOf (.cons (.d false (.int .i64)) .nil) [] [] 1 frac_absR_ (fun (b : Int) => ((b, ()), (()))) (fun (a : ((Int × Unit) × (Unit))) => frac_abs a.1.1))

theorem frac_abs_ok : MdlOK Try.prog 61 frac_absM :=
  fn_ok (c := (bodyOf Try.f61)) Try.func61 (by rfl) (by kernel_rfl) (X := frac_absX) (by kernel_rfl) (rs := [.tmp 2]) (by kernel_rfl) (sh := frac_absR_) (un := (fun (x : ((Int × Unit) × (Unit))) => x.1.1)) (mk := (fun (b : Int) => ((b, ()), (())))) (fun _ => rfl) rfl (frac_absG) mixed (ann := .z) (AllS.all (l := []) (by kernel_rfl) trivial) (Nat.le_of_ble_eq_true (by kernel_rfl)) (by kernel_rfl) (fun a => by kernel_rfl)

/-! casebook/frac.fit -/

def frac_fitR_ : Shp := ⟨[(0, .d true Frac.ty), (1, .d true (.int .i64))], []⟩

noncomputable abbrev frac_fitX : Ctx ((Frac × Int)) := ⟨43, tt, false, [], gam [], lam [loopSumm ((Frac × Int)) 43 [] frac_fitL0I (C := (Bool × Int × Int × Int × Int)) (S := (Int × Int)) (fun (x : ((Bool × Int × Int × Unit × Int × Int × Unit) × ((Int × Int × Unit) × Unit))) => ((x.1.1, x.1.2.1, x.1.2.2.1, x.2.1.1, x.2.1.2.1), (x.1.2.2.2.2.1, x.1.2.2.2.2.2.1))) frac_fitL0E (CE := (Bool × Int × Int × Int × Int)) (E := Int) (fun (c : (Bool × Int × Int × Int × Int)) (e : Int) => ((c.1, c.2.1, c.2.2.1, (), e, ()), ((c.2.2.2.1, c.2.2.2.2, ()), ()))) (fun (c : (Bool × Int × Int × Int × Int)) => (c.1, c.2.1, c.2.2.1, c.2.2.2.1, c.2.2.2.2)) (fun {R} c a nx dn rt => frac_fitL0K c.1 c.2.1 c.2.2.1 c.2.2.2.1 c.2.2.2.2 a.1 a.2 nx dn rt)], resU 43 tt [] [.cell 6 50, .tmp 7] frac_fitR_ (fun (x : ((Frac × Int × Unit) × (Unit))) => (x.1.1, x.1.2.1))⟩

theorem frac_fitG : CtxOK Try.prog frac_fitX := ⟨fits, gam_ok (AllM.all (l := []) trivial)⟩

theorem frac_fitS0 : SummOK Try.prog frac_fitX 0 (.block 0 (.loop (subC (bodyOf Try.f60) [true, true, false, false, false]))) :=
  loop_ok (shI := frac_fitL0I) (shE := frac_fitL0E) (C := (Bool × Int × Int × Int × Int)) (S := (Int × Int)) (CE := (Bool × Int × Int × Int × Int)) (E := Int) (frac_fitG) mixed (ann := (.two .z (.one (.d [0, 0, 0, 6, 3, 31] [] [])))) (AllS.all (l := []) (by kernel_rfl) trivial) (mk := (fun (c : (Bool × Int × Int × Int × Int)) (a : (Int × Int)) => ((c.1, c.2.1, c.2.2.1, (), a.1, a.2, ()), ((c.2.2.2.1, c.2.2.2.2, ()), ())))) (unE := (fun (y : ((Bool × Int × Int × Unit × Int × Unit) × ((Int × Int × Unit) × Unit))) => ((y.1.1, y.1.2.1, y.1.2.2.1, y.2.1.1, y.2.1.2.1), y.1.2.2.2.2.1))) rfl (fun _ => rfl) (fun _ => rfl) (fun R K D T c a => by kernel_rfl)

noncomputable abbrev frac_fitM : Mdl := (mdlOf (.cons (.d false .bool) (.cons (.d false (.int .u64)) (.cons (.d false (.int .u64)) .nil))) [] [] 2 frac_fitR_ (fun (b : (Frac × Int)) => ((b.1, b.2, ()), (()))) (fun (a : ((Bool × Int × Int × Unit) × (Unit))) => frac_fit a.1.1 a.1.2.1 a.1.2.2.1))

theorem frac_fit_ok : MdlOK Try.prog 60 frac_fitM :=
  fn_ok (c := (bodyOf Try.f60)) Try.func60 (by rfl) (by kernel_rfl) (X := frac_fitX) (by kernel_rfl) (rs := [.cell 6 50, .tmp 7]) (by kernel_rfl) (sh := frac_fitR_) (un := (fun (x : ((Frac × Int × Unit) × (Unit))) => (x.1.1, x.1.2.1))) (mk := (fun (b : (Frac × Int)) => ((b.1, b.2, ()), (())))) (fun _ => rfl) rfl (frac_fitG) mixed (ann := (.two .z (.two .z (.two (.s 0) (.two (.d [0, 0, 3, 0, 0, 24, 7, 127] [] []) .z))))) (AllS.all (l := [(0, .block 0 (.loop (subC (bodyOf Try.f60) [true, true, false, false, false])))]) (by kernel_rfl) ⟨frac_fitS0, trivial⟩) (Nat.le_of_ble_eq_true (by kernel_rfl)) (by kernel_rfl) (fun a => by kernel_rfl)

/-! casebook/frac.Make -/

def frac_MakeR_ : Shp := ⟨[(0, .d true Frac.ty), (1, .d true (.int .i64))], []⟩

noncomputable abbrev frac_MakeX : Ctx ((Frac × Int)) := ⟨21, tt, false, [], gam [(61, frac_absM), (60, frac_fitM)], lam [], resU 21 tt [] [.cell 4 50, .tmp 5] frac_MakeR_ (fun (x : ((Frac × Int × Unit) × (Unit))) => (x.1.1, x.1.2.1))⟩

theorem frac_MakeG : CtxOK Try.prog frac_MakeX := ⟨fits, gam_ok (AllM.all (l := [(61, frac_absM), (60, frac_fitM)]) ⟨frac_abs_ok, frac_fit_ok, trivial⟩)⟩

noncomputable abbrev frac_MakeM : Mdl := (mdlOf (.cons (.d false (.int .i64)) (.cons (.d false (.int .i64)) .nil)) [] [] 2 frac_MakeR_ (fun (b : (Frac × Int)) => ((b.1, b.2, ()), (()))) (fun (a : ((Int × Int × Unit) × (Unit))) => frac_Make a.1.1 a.1.2.1))

theorem frac_Make_ok : MdlOK Try.prog 45 frac_MakeM :=
  fn_ok (c := (bodyOf Try.f45)) Try.func45 (by rfl) (by kernel_rfl) (X := frac_MakeX) (by kernel_rfl) (rs := [.cell 4 50, .tmp 5]) (by kernel_rfl) (sh := frac_MakeR_) (un := (fun (x : ((Frac × Int × Unit) × (Unit))) => (x.1.1, x.1.2.1))) (mk := (fun (b : (Frac × Int)) => ((b.1, b.2, ()), (())))) (fun _ => rfl) rfl (frac_MakeG) mixed (ann := .z) (AllS.all (l := []) (by kernel_rfl) trivial) (Nat.le_of_ble_eq_true (by kernel_rfl)) (by kernel_rfl) (fun a => by kernel_rfl)

/-! casebook/matrix.Solve -/

def matrix_SolveR_ : Shp := ⟨[(0, .own 0), (1, .d true (.int .i64))], [.arr 50 (.fz true) [0, 0] Frac.ty]⟩

noncomputable abbrev matrix_SolveX : Ctx ((Int × (List Frac))) := ⟨117, tt, false, [], gam [(36, matrix_ValidM), (42, matrix_columnM), (43, slices_Clone_int_intM), (38, matrix_smallM), (44, matrix_reduceM), (45, frac_MakeM)], lam [loopSumm ((Int × (List Frac))) 117 [] matrix_SolveL0I (C := ((List (List Int)) × (List Int) × (List (List Int)) × Int)) (S := (Int × (List (List Int)))) (fun (x : (((List (List Int)) × (List Int) × Unit × (List (List Int)) × Int × Int × Unit) × ((List (List Int)) × Unit))) => ((x.1.1, x.1.2.1, x.1.2.2.2.1, x.1.2.2.2.2.1), (x.1.2.2.2.2.2.1, x.2.1))) matrix_SolveL0E (CE := (List (List Int))) (E := (List (List Int))) (fun (c : (List (List Int))) (e : (List (List Int))) => ((c, (), ()), (e, ()))) (fun (c : ((List (List Int)) × (List Int) × (List (List Int)) × Int)) => c.1) (fun {R} c a nx dn rt => matrix_SolveL0K c.1 c.2.1 c.2.2.1 c.2.2.2 a.1 a.2 nx dn rt),
  loopSumm ((Int × (List Frac))) 117 [] matrix_SolveL1I (C := (Int × (List (List Int)) × Int × (List (List Int)) × (List Int) × Int × Int)) (S := Int) (fun (x : ((Int × Unit × (List (List Int)) × Int × Int × Unit) × (((List (List Int)) × (List Int) × Int × Int × Unit) × Unit))) => ((x.1.1, x.1.2.2.1, x.1.2.2.2.1, x.2.1.1, x.2.1.2.1, x.2.1.2.2.1, x.2.1.2.2.2.1), x.1.2.2.2.2.1)) matrix_SolveL1E (CE := (Int × (List (List Int)) × (List Int) × Int × Int)) (E := Unit) (fun (c : (Int × (List (List Int)) × (List Int) × Int × Int)) (e : Unit) => ((c.1, (), ()), ((c.2.1, c.2.2.1, c.2.2.2.1, c.2.2.2.2, ()), ()))) (fun (c : (Int × (List (List Int)) × Int × (List (List Int)) × (List Int) × Int × Int)) => (c.1, c.2.2.2.1, c.2.2.2.2.1, c.2.2.2.2.2.1, c.2.2.2.2.2.2)) (fun {R} c a nx dn rt => matrix_SolveL1K c.1 c.2.1 c.2.2.1 c.2.2.2.1 c.2.2.2.2.1 c.2.2.2.2.2.1 c.2.2.2.2.2.2 a nx dn rt),
  loopSumm ((Int × (List Frac))) 117 [] matrix_SolveL2I (C := (Int × Int × (List (List Int)) × (List Int) × Int × Int)) (S := (Int × (List Frac))) (fun (x : ((Int × Unit × Unit × Int × Int × Unit) × (((List (List Int)) × (List Int) × Int × Int × Unit) × (List Frac) × Unit))) => ((x.1.1, x.1.2.2.2.1, x.2.1.1, x.2.1.2.1, x.2.1.2.2.1, x.2.1.2.2.2.1), (x.1.2.2.2.2.1, x.2.2.1))) matrix_SolveL2E (CE := (Int × (List (List Int)) × (List Int) × Int × Int)) (E := (List Frac)) (fun (c : (Int × (List (List Int)) × (List Int) × Int × Int)) (e : (List Frac)) => ((c.1, (), (), ()), ((c.2.1, c.2.2.1, c.2.2.2.1, c.2.2.2.2, ()), e, ()))) (fun (c : (Int × Int × (List (List Int)) × (List Int) × Int × Int)) => (c.1, c.2.2.1, c.2.2.2.1, c.2.2.2.2.1, c.2.2.2.2.2)) (fun {R} c a nx dn rt => matrix_SolveL2K c.1 c.2.1 c.2.2.1 c.2.2.2.1 c.2.2.2.2.1 c.2.2.2.2.2 a.1 a.2 nx dn rt),
  loopSumm ((Int × (List Frac))) 117 [] matrix_SolveL3I (C := (Int × (List Int) × Int × (List (List Int)) × (List Int) × Int × Int)) (S := (Int × (List Frac))) (fun (x : ((Int × Unit × Unit × (List Int) × Int × Int × Unit) × (((List (List Int)) × (List Int) × Int × Int × Unit) × (List Frac) × Unit))) => ((x.1.1, x.1.2.2.2.1, x.1.2.2.2.2.1, x.2.1.1, x.2.1.2.1, x.2.1.2.2.1, x.2.1.2.2.2.1), (x.1.2.2.2.2.2.1, x.2.2.1))) matrix_SolveL3E (CE := Unit) (E := (List Frac)) (fun (c : Unit) (e : (List Frac)) => (((), ()), (e, ()))) (fun (c : (Int × (List Int) × Int × (List (List Int)) × (List Int) × Int × Int)) => ()) (fun {R} c a nx dn rt => matrix_SolveL3K c.1 c.2.1 c.2.2.1 c.2.2.2.1 c.2.2.2.2.1 c.2.2.2.2.2.1 c.2.2.2.2.2.2 a.1 a.2 nx dn rt)], resU 117 tt [] [.tmp 4, .tmp 5] matrix_SolveR_ (fun (x : ((Unit × Int × Unit) × ((List Frac) × Unit))) => (x.1.2.1, x.2.1))⟩

theorem matrix_SolveG : CtxOK Try.prog matrix_SolveX := ⟨fits, gam_ok (AllM.all (l := [(36, matrix_ValidM), (42, matrix_columnM), (43, slices_Clone_int_intM), (38, matrix_smallM), (44, matrix_reduceM), (45, frac_MakeM)]) ⟨matrix_Valid_ok, matrix_column_ok, slices_Clone_int_int_ok, matrix_small_ok, matrix_reduce_ok, frac_Make_ok, trivial⟩)⟩

theorem matrix_SolveS3 : SummOK Try.prog matrix_SolveX 3 (.block 7 (.loop (subC (bodyOf Try.f16) [true, true, true, true, true, true, true, true, true, true, false, true, false, false]))) :=
  loop_ok (shI := matrix_SolveL3I) (shE := matrix_SolveL3E) (C := (Int × (List Int) × Int × (List (List Int)) × (List Int) × Int × Int)) (S := (Int × (List Frac))) (CE := Unit) (E := (List Frac)) (matrix_SolveG) mixed (ann := (.two .z (.two .z (.two (.one (.two .z (.d [0, 0, 0, 4, 0, 28, 60, 0, 252, 508, 0, 1024, 4092, 8188, 16380, 16380, 32767, 98303] [17] []))) .z)))) (AllS.all (l := []) (by kernel_rfl) trivial) (mk := (fun (c : (Int × (List Int) × Int × (List (List Int)) × (List Int) × Int × Int)) (a : (Int × (List Frac))) => ((c.1, (), (), c.2.1, c.2.2.1, a.1, ()), ((c.2.2.2.1, c.2.2.2.2.1, c.2.2.2.2.2.1, c.2.2.2.2.2.2, ()), a.2, ())))) (unE := (fun (y : ((Unit × Unit) × ((List Frac) × Unit))) => ((), y.2.1))) rfl (fun _ => rfl) (fun _ => rfl) (fun R K D T c a => by kernel_rfl)

theorem matrix_SolveS2 : SummOK Try.prog matrix_SolveX 2 (.block 5 (.loop (subC (bodyOf Try.f16) [true, true, true, true, true, true, true, true, true, false, true, false, false]))) :=
  loop_ok (shI := matrix_SolveL2I) (shE := matrix_SolveL2E) (C := (Int × Int × (List (List Int)) × (List Int) × Int × Int)) (S := (Int × (List Frac))) (CE := (Int × (List (List Int)) × (List Int) × Int × Int)) (E := (List Frac)) (matrix_SolveG) mixed (ann := .z) (AllS.all (l := []) (by kernel_rfl) trivial) (mk := (fun (c : (Int × Int × (List (List Int)) × (List Int) × Int × Int)) (a : (Int × (List Frac))) => ((c.1, (), (), c.2.1, a.1, ()), ((c.2.2.1, c.2.2.2.1, c.2.2.2.2.1, c.2.2.2.2.2, ()), a.2, ())))) (unE := (fun (y : ((Int × Unit × Unit × Unit) × (((List (List Int)) × (List Int) × Int × Int × Unit) × (List Frac) × Unit))) => ((y.1.1, y.2.1.1, y.2.1.2.1, y.2.1.2.2.1, y.2.1.2.2.2.1), y.2.2.1))) rfl (fun _ => rfl) (fun _ => rfl) (fun R K D T c a => by kernel_rfl)

theorem matrix_SolveS1 : SummOK Try.prog matrix_SolveX 1 (.block 3 (.loop (subC (bodyOf Try.f16) [true, true, true, true, true, true, true, false, true, false, false]))) :=
  loop_ok (shI := matrix_SolveL1I) (shE := matrix_SolveL1E) (C := (Int × (List (List Int)) × Int × (List (List Int)) × (List Int) × Int × Int)) (S := Int) (CE := (Int × (List (List Int)) × (List Int) × Int × Int)) (E := Unit) (matrix_SolveG) mixed (ann := .z) (AllS.all (l := []) (by kernel_rfl) trivial) (mk := (fun (c : (Int × (List (List Int)) × Int × (List (List Int)) × (List Int) × Int × Int)) (a : Int) => ((c.1, (), c.2.1, c.2.2.1, a, ()), ((c.2.2.2.1, c.2.2.2.2.1, c.2.2.2.2.2.1, c.2.2.2.2.2.2, ()), ())))) (unE := (fun (y : ((Int × Unit × Unit) × (((List (List Int)) × (List Int) × Int × Int × Unit) × Unit))) => ((y.1.1, y.2.1.1, y.2.1.2.1, y.2.1.2.2.1, y.2.1.2.2.2.1), ()))) rfl (fun _ => rfl) (fun _ => rfl) (fun R K D T c a => by kernel_rfl)

theorem matrix_SolveS0 : SummOK Try.prog matrix_SolveX 0 (.block 1 (.loop (subC (bodyOf Try.f16) [true, true, true, false, true, false, false]))) :=
  loop_ok (shI := matrix_SolveL0I) (shE := matrix_SolveL0E) (C := ((List (List Int)) × (List Int) × (List (List Int)) × Int)) (S := (Int × (List (List Int)))) (CE := (List (List Int))) (E := (List (List Int))) (matrix_SolveG) mixed (ann := (.two .z (.two .z (.two (.one (.two .z (.d [0, 0, 2, 0, 0, 24, 56, 120, 254, 510, 1023, 2047] [8, 9, 10, 11] []))) .z)))) (AllS.all (l := []) (by kernel_rfl) trivial) (mk := (fun (c : ((List (List Int)) × (List Int) × (List (List Int)) × Int)) (a : (Int × (List (List Int)))) => ((c.1, c.2.1, (), c.2.2.1, c.2.2.2, a.1, ()), (a.2, ())))) (unE := (fun (y : (((List (List Int)) × Unit × Unit) × ((List (List Int)) × Unit))) => (y.1.1, y.2.1))) rfl (fun _ => rfl) (fun _ => rfl) (fun R K D T c a => by kernel_rfl)

noncomputable abbrev matrix_SolveM : Mdl := (mdlOf (.cons (.d false (.slice (.slice (.int .i64)))) (.cons (.d false (.slice (.int .i64))) .nil)) [] [] 2 matrix_SolveR_ (fun (b : (Int × (List Frac))) => (((), b.1, ()), (b.2, ()))) (fun (a : (((List (List Int)) × (List Int) × Unit) × (Unit))) => matrix_Solve a.1.1 a.1.2.1))

theorem matrix_Solve_ok : MdlOK Try.prog 16 matrix_SolveM :=
  fn_ok (c := (bodyOf Try.f16)) Try.func16 (by rfl) (by kernel_rfl) (X := matrix_SolveX) (by kernel_rfl) (rs := [.tmp 4, .tmp 5]) (by kernel_rfl) (sh := matrix_SolveR_) (un := (fun (x : ((Unit × Int × Unit) × ((List Frac) × Unit))) => (x.1.2.1, x.2.1))) (mk := (fun (b : (Int × (List Frac))) => (((), b.1, ()), (b.2, ())))) (fun _ => rfl) rfl (matrix_SolveG) mixed (ann := (.two .z (.two .z (.two .z (.two (.two .z (.s 0)) (.two .z (.two .z (.two .z (.two (.two .z (.s 1)) (.two .z (.two (.two .z (.s 2)) (.two (.two .z (.s 3)) .z)))))))))))) (AllS.all (l := [(0, .block 1 (.loop (subC (bodyOf Try.f16) [true, true, true, false, true, false, false]))), (1, .block 3 (.loop (subC (bodyOf Try.f16) [true, true, true, true, true, true, true, false, true, false, false]))), (2, .block 5 (.loop (subC (bodyOf Try.f16) [true, true, true, true, true, true, true, true, true, false, true, false, false]))), (3, .block 7 (.loop (subC (bodyOf Try.f16) [true, true, true, true, true, true, true, true, true, true, false, true, false, false])))]) (by kernel_rfl) ⟨matrix_SolveS0, matrix_SolveS1, matrix_SolveS2, matrix_SolveS3, trivial⟩) (Nat.le_of_ble_eq_true (by kernel_rfl)) (by kernel_rfl) (fun a => by kernel_rfl)

/-! casebook/matrix.transposed -/

def matrix_transposedR_ : Shp := ⟨[(0, .own 0)], [.arr 32 .own [3] (.slice (.int .i64))]⟩

noncomputable abbrev matrix_transposedX : Ctx ((List (List Int))) := ⟨39, tt, false, [], gam [], lam [loopSumm ((List (List Int))) 39 [] matrix_transposedL0I (C := ((List (List Int)) × Int × Int × (List Int) × Int)) (S := (Int × (List (List Int)))) (fun (x : ((Unit × (List (List Int)) × Int × Int × (List Int) × Int × Int × Unit) × ((List (List Int)) × Unit))) => ((x.1.2.1, x.1.2.2.1, x.1.2.2.2.1, x.1.2.2.2.2.1, x.1.2.2.2.2.2.1), (x.1.2.2.2.2.2.2.1, x.2.1))) matrix_transposedL0E (CE := ((List (List Int)) × Int × Int)) (E := (List (List Int))) (fun (c : ((List (List Int)) × Int × Int)) (e : (List (List Int))) => (((), c.1, c.2.1, c.2.2, ()), (e, ()))) (fun (c : ((List (List Int)) × Int × Int × (List Int) × Int)) => (c.1, c.2.1, c.2.2.1)) (fun {R} c a nx dn rt => matrix_transposedL0K c.1 c.2.1 c.2.2.1 c.2.2.2.1 c.2.2.2.2 a.1 a.2 nx dn rt),
  loopSumm ((List (List Int))) 39 [] matrix_transposedL1I (C := ((List (List Int)) × Int)) (S := (Int × (List (List Int)))) (fun (x : ((Unit × (List (List Int)) × Int × Int × Unit) × ((List (List Int)) × Unit))) => ((x.1.2.1, x.1.2.2.1), (x.1.2.2.2.1, x.2.1))) matrix_transposedL1E (CE := Unit) (E := (List (List Int))) (fun (c : Unit) (e : (List (List Int))) => (((), ()), (e, ()))) (fun (c : ((List (List Int)) × Int)) => ()) (fun {R} c a nx dn rt => matrix_transposedL1K c.1 c.2 a.1 a.2 nx dn rt)], resU 39 tt [] [.tmp 2] matrix_transposedR_ (fun (x : ((Unit × Unit) × ((List (List Int)) × Unit))) => x.2.1)⟩

theorem matrix_transposedG : CtxOK Try.prog matrix_transposedX := ⟨fits, gam_ok (AllM.all (l := []) trivial)⟩

theorem matrix_transposedS0 : SummOK Try.prog matrix_transposedX 0 (.block 2 (.loop (subC (bodyOf Try.f46) [true, true, false, true, false, false, true, true, false, false, true, true, false, false]))) :=
  loop_ok (shI := matrix_transposedL0I) (shE := matrix_transposedL0E) (C := ((List (List Int)) × Int × Int × (List Int) × Int)) (S := (Int × (List (List Int)))) (CE := ((List (List Int)) × Int × Int)) (E := (List (List Int))) (matrix_transposedG) mixed (ann := .z) (AllS.all (l := []) (by kernel_rfl) trivial) (mk := (fun (c : ((List (List Int)) × Int × Int × (List Int) × Int)) (a : (Int × (List (List Int)))) => (((), c.1, c.2.1, c.2.2.1, c.2.2.2.1, c.2.2.2.2, a.1, ()), (a.2, ())))) (unE := (fun (y : ((Unit × (List (List Int)) × Int × Int × Unit) × ((List (List Int)) × Unit))) => ((y.1.2.1, y.1.2.2.1, y.1.2.2.2.1), y.2.1))) rfl (fun _ => rfl) (fun _ => rfl) (fun R K D T c a => by kernel_rfl)

theorem matrix_transposedS1 : SummOK Try.prog matrix_transposedX 1 (.block 0 (.loop (subC (bodyOf Try.f46) [true, true, false, true, false, false]))) :=
  loop_ok (shI := matrix_transposedL1I) (shE := matrix_transposedL1E) (C := ((List (List Int)) × Int)) (S := (Int × (List (List Int)))) (CE := Unit) (E := (List (List Int))) (matrix_transposedG) mixed (ann := (.two .z (.two .z (.two (.one (.two .z (.two .z (.s 0)))) .z)))) (AllS.all (l := [(0, .block 2 (.loop (subC (bodyOf Try.f46) [true, true, false, true, false, false, true, true, false, false, true, true, false, false])))]) (by kernel_rfl) ⟨matrix_transposedS0, trivial⟩) (mk := (fun (c : ((List (List Int)) × Int)) (a : (Int × (List (List Int)))) => (((), c.1, c.2, a.1, ()), (a.2, ())))) (unE := (fun (y : ((Unit × Unit) × ((List (List Int)) × Unit))) => ((), y.2.1))) rfl (fun _ => rfl) (fun _ => rfl) (fun R K D T c a => by kernel_rfl)

noncomputable abbrev matrix_transposedM : Mdl := (mdlOf (.cons (.d false (.slice (.slice (.int .i64)))) .nil) [] [] 1 matrix_transposedR_ (fun (b : (List (List Int))) => (((), ()), (b, ()))) (fun (a : (((List (List Int)) × Unit) × (Unit))) => matrix_transposed a.1.1))

theorem matrix_transposed_ok : MdlOK Try.prog 46 matrix_transposedM :=
  fn_ok (c := (bodyOf Try.f46)) Try.func46 (by rfl) (by kernel_rfl) (X := matrix_transposedX) (by kernel_rfl) (rs := [.tmp 2]) (by kernel_rfl) (sh := matrix_transposedR_) (un := (fun (x : ((Unit × Unit) × ((List (List Int)) × Unit))) => x.2.1)) (mk := (fun (b : (List (List Int))) => (((), ()), (b, ())))) (fun _ => rfl) rfl (matrix_transposedG) mixed (ann := (.two .z (.two .z (.two (.two .z (.s 1)) .z)))) (AllS.all (l := [(1, .block 0 (.loop (subC (bodyOf Try.f46) [true, true, false, true, false, false])))]) (by kernel_rfl) ⟨matrix_transposedS1, trivial⟩) (Nat.le_of_ble_eq_true (by kernel_rfl)) (by kernel_rfl) (fun a => by kernel_rfl)

/-! casebook/matrix.Refute -/

def matrix_RefuteR_ : Shp := ⟨[(0, .d true (.slice (.int .i64))), (1, .d true (.int .i64))], []⟩

noncomputable abbrev matrix_RefuteX : Ctx (((List Int) × Int)) := ⟨59, tt, false, [], gam [(36, matrix_ValidM), (42, matrix_columnM), (46, matrix_transposedM), (38, matrix_smallM), (39, matrix_kernelM)], lam [loopSumm (((List Int) × Int)) 59 [] matrix_RefuteL0I (C := ((List Int) × Nat × Int × Int × Nat × Int × (List (List Int)))) (S := (Int × Int)) (fun (x : (((List Int) × Nat × Int × Unit × Int × Int × Nat × Int × Int × Unit) × ((List (List Int)) × Unit))) => ((x.1.1, x.1.2.1, x.1.2.2.2.2.1, x.1.2.2.2.2.2.1, x.1.2.2.2.2.2.2.1, x.1.2.2.2.2.2.2.2.1, x.2.1), (x.1.2.2.1, x.1.2.2.2.2.2.2.2.2.1))) matrix_RefuteL0E (CE := ((List Int) × Nat × Int × Int × (List (List Int)))) (E := Int) (fun (c : ((List Int) × Nat × Int × Int × (List (List Int)))) (e : Int) => ((c.1, c.2.1, e, (), c.2.2.1, c.2.2.2.1, ()), (c.2.2.2.2, ()))) (fun (c : ((List Int) × Nat × Int × Int × Nat × Int × (List (List Int)))) => (c.1, c.2.1, c.2.2.1, c.2.2.2.1, c.2.2.2.2.2.2)) (fun {R} c a nx dn rt => matrix_RefuteL0K c.1 c.2.1 c.2.2.1 c.2.2.2.1 c.2.2.2.2.1 c.2.2.2.2.2.1 c.2.2.2.2.2.2 a.1 a.2 nx dn rt),
  loopSumm (((List Int) × Int)) 59 [] matrix_RefuteL1I (C := ((List Int) × Int × (List (List Int)))) (S := Int) (fun (x : (((List Int) × Unit × Int × Int × Unit) × ((List (List Int)) × Unit))) => ((x.1.1, x.1.2.2.1, x.2.1), x.1.2.2.2.1)) matrix_RefuteL1E (CE := Unit) (E := Unit) (fun (c : Unit) (e : Unit) => ((()), (()))) (fun (c : ((List Int) × Int × (List (List Int)))) => ()) (fun {R} c a nx dn rt => matrix_RefuteL1K c.1 c.2.1 c.2.2 a nx dn rt)], resU 59 tt [] [.tmp 4, .tmp 5] matrix_RefuteR_ (fun (x : (((List Int) × Int × Unit) × (Unit))) => (x.1.1, x.1.2.1))⟩

theorem matrix_RefuteG : CtxOK Try.prog matrix_RefuteX := ⟨fits, gam_ok (AllM.all (l := [(36, matrix_ValidM), (42, matrix_columnM), (46, matrix_transposedM), (38, matrix_smallM), (39, matrix_kernelM)]) ⟨matrix_Valid_ok, matrix_column_ok, matrix_transposed_ok, matrix_small_ok, matrix_kernel_ok, trivial⟩)⟩

theorem matrix_RefuteS0 : SummOK Try.prog matrix_RefuteX 0 (.block 3 (.loop (subC (bodyOf Try.f17) [true, true, true, true, false, true, false, false, true, true, false, false, true, true, false, true, false, false]))) :=
  loop_ok (shI := matrix_RefuteL0I) (shE := matrix_RefuteL0E) (C := ((List Int) × Nat × Int × Int × Nat × Int × (List (List Int)))) (S := (Int × Int)) (CE := ((List Int) × Nat × Int × Int × (List (List Int)))) (E := Int) (matrix_RefuteG) mixed (ann := .z) (AllS.all (l := []) (by kernel_rfl) trivial) (mk := (fun (c : ((List Int) × Nat × Int × Int × Nat × Int × (List (List Int)))) (a : (Int × Int)) => ((c.1, c.2.1, a.1, (), c.2.2.1, c.2.2.2.1, c.2.2.2.2.1, c.2.2.2.2.2.1, a.2, ()), (c.2.2.2.2.2.2, ())))) (unE := (fun (y : (((List Int) × Nat × Int × Unit × Int × Int × Unit) × ((List (List Int)) × Unit))) => ((y.1.1, y.1.2.1, y.1.2.2.2.2.1, y.1.2.2.2.2.2.1, y.2.1), y.1.2.2.1))) rfl (fun _ => rfl) (fun _ => rfl) (fun R K D T c a => by kernel_rfl)

theorem matrix_RefuteS1 : SummOK Try.prog matrix_RefuteX 1 (.block 1 (.loop (subC (bodyOf Try.f17) [true, true, true, true, false, true, false, false]))) :=
  loop_ok (shI := matrix_RefuteL1I) (shE := matrix_RefuteL1E) (C := ((List Int) × Int × (List (List Int)))) (S := Int) (CE := Unit) (E := Unit) (matrix_RefuteG) mixed (ann := (.two .z (.two .z (.two (.one (.two .z (.two .z (.two (.two .z (.s 0)) .z)))) .z)))) (AllS.all (l := [(0, .block 3 (.loop (subC (bodyOf Try.f17) [true, true, true, true, false, true, false, false, true, true, false, false, true, true, false, true, false, false])))]) (by kernel_rfl) ⟨matrix_RefuteS0, trivial⟩) (mk := (fun (c : ((List Int) × Int × (List (List Int)))) (a : Int) => ((c.1, (), c.2.1, a, ()), (c.2.2, ())))) (unE := (fun (y : ((Unit) × (Unit))) => ((), ()))) rfl (fun _ => rfl) (fun _ => rfl) (fun R K D T c a => by kernel_rfl)

noncomputable abbrev matrix_RefuteM : Mdl := (mdlOf (.cons (.d false (.slice (.slice (.int .i64)))) (.cons (.d false (.slice (.int .i64))) .nil)) [] [] 2 matrix_RefuteR_ (fun (b : ((List Int) × Int)) => ((b.1, b.2, ()), (()))) (fun (a : (((List (List Int)) × (List Int) × Unit) × (Unit))) => matrix_Refute a.1.1 a.1.2.1))

theorem matrix_Refute_ok : MdlOK Try.prog 17 matrix_RefuteM :=
  fn_ok (c := (bodyOf Try.f17)) Try.func17 (by rfl) (by kernel_rfl) (X := matrix_RefuteX) (by kernel_rfl) (rs := [.tmp 4, .tmp 5]) (by kernel_rfl) (sh := matrix_RefuteR_) (un := (fun (x : (((List Int) × Int × Unit) × (Unit))) => (x.1.1, x.1.2.1))) (mk := (fun (b : ((List Int) × Int)) => ((b.1, b.2, ()), (())))) (fun _ => rfl) rfl (matrix_RefuteG) mixed (ann := (.two .z (.two .z (.two .z (.two .z (.two (.two .z (.s 1)) .z)))))) (AllS.all (l := [(1, .block 1 (.loop (subC (bodyOf Try.f17) [true, true, true, true, false, true, false, false])))]) (by kernel_rfl) ⟨matrix_RefuteS1, trivial⟩) (Nat.le_of_ble_eq_true (by kernel_rfl)) (by kernel_rfl) (fun a => by kernel_rfl)

/-! casebook/casebookref05.SameRow -/

def ref05_SameRowR_ : Shp := ⟨[(0, .d true .bool)], []⟩

noncomputable abbrev ref05_SameRowX : Ctx (Bool) := ⟨26, tt, false, [], gam [], lam [loopSumm (Bool) 26 [] ref05_SameRowL0I (C := ((List Int) × (List Int))) (S := Int) (fun (x : (((List Int) × (List Int) × Int × Unit) × (Unit))) => ((x.1.1, x.1.2.1), x.1.2.2.1)) ref05_SameRowL0E (CE := Unit) (E := Unit) (fun (c : Unit) (e : Unit) => ((()), (()))) (fun (c : ((List Int) × (List Int))) => ()) (fun {R} c a nx dn rt => ref05_SameRowL0K c.1 c.2 a nx dn rt)], resU 26 tt [] [.tmp 4] ref05_SameRowR_ (fun (x : ((Bool × Unit) × (Unit))) => x.1.1)⟩

theorem ref05_SameRowG : CtxOK Try.prog ref05_SameRowX := ⟨fits, gam_ok (AllM.all (l := []) trivial)⟩

theorem ref05_SameRowS0 : SummOK Try.prog ref05_SameRowX 0 (.block 0 (.loop (subC (bodyOf Try.f21) [true, true, false, true, false, false]))) :=
  loop_ok (shI := ref05_SameRowL0I) (shE := ref05_SameRowL0E) (C := ((List Int) × (List Int))) (S := Int) (CE := Unit) (E := Unit) (ref05_SameRowG) mixed (ann := (.two .z (.two (.one (.two (.d [0, 0, 3, 7, 0, 0, 48, 112, 255] [] []) .z)) .z))) (AllS.all (l := []) (by kernel_rfl) trivial) (mk := (fun (c : ((List Int) × (List Int))) (a : Int) => ((c.1, c.2, a, ()), (())))) (unE := (fun (y : ((Unit) × (Unit))) => ((), ()))) rfl (fun _ => rfl) (fun _ => rfl) (fun R K D T c a => by kernel_rfl)

noncomputable abbrev ref05_SameRowM : Mdl := (mdlOf (.cons (.d false (.slice (.int .i64))) (.cons (.d false (.slice (.int .i64))) .nil)) [] [] 1 ref05_SameRowR_ (fun (b : Bool) => ((b, ()), (()))) (fun (a : (((List Int) × (List Int) × Unit) × (Unit))) => ref05_SameRow a.1.1 a.1.2.1))

theorem ref05_SameRow_ok : MdlOK Try.prog 21 ref05_SameRowM :=
  fn_ok (c := (bodyOf Try.f21)) Try.func21 (by rfl) (by kernel_rfl) (X := ref05_SameRowX) (by kernel_rfl) (rs := [.tmp 4]) (by kernel_rfl) (sh := ref05_SameRowR_) (un := (fun (x : ((Bool × Unit) × (Unit))) => x.1.1)) (mk := (fun (b : Bool) => ((b, ()), (())))) (fun _ => rfl) rfl (ref05_SameRowG) mixed (ann := (.two .z (.two .z (.two (.two .z (.s 0)) .z)))) (AllS.all (l := [(0, .block 0 (.loop (subC (bodyOf Try.f21) [true, true, false, true, false, false])))]) (by kernel_rfl) ⟨ref05_SameRowS0, trivial⟩) (Nat.le_of_ble_eq_true (by kernel_rfl)) (by kernel_rfl) (fun a => by kernel_rfl)

/-! casebook/casebookref05.Same -/

def ref05_SameR_ : Shp := ⟨[(0, .d true .bool)], []⟩

noncomputable abbrev ref05_SameX : Ctx (Bool) := ⟨27, tt, false, [], gam [(21, ref05_SameRowM)], lam [loopSumm (Bool) 27 [] ref05_SameL0I (C := ((List (List Int)) × (List (List Int)))) (S := Int) (fun (x : (((List (List Int)) × (List (List Int)) × Int × Unit) × (Unit))) => ((x.1.1, x.1.2.1), x.1.2.2.1)) ref05_SameL0E (CE := Unit) (E := Unit) (fun (c : Unit) (e : Unit) => ((()), (()))) (fun (c : ((List (List Int)) × (List (List Int)))) => ()) (fun {R} c a nx dn rt => ref05_SameL0K c.1 c.2 a nx dn rt)], resU 27 tt [] [.tmp 4] ref05_SameR_ (fun (x : ((Bool × Unit) × (Unit))) => x.1.1)⟩

theorem ref05_SameG : CtxOK Try.prog ref05_SameX := ⟨fits, gam_ok (AllM.all (l := [(21, ref05_SameRowM)]) ⟨ref05_SameRow_ok, trivial⟩)⟩

theorem ref05_SameS0 : SummOK Try.prog ref05_SameX 0 (.block 0 (.loop (subC (bodyOf Try.f15) [true, true, false, true, false, false]))) :=
  loop_ok (shI := ref05_SameL0I) (shE := ref05_SameL0E) (C := ((List (List Int)) × (List (List Int)))) (S := Int) (CE := Unit) (E := Unit) (ref05_SameG) mixed (ann := (.two .z (.two (.one (.two (.d [0, 0, 3, 7, 0, 0, 48, 112, 255, 511] [] []) .z)) .z))) (AllS.all (l := []) (by kernel_rfl) trivial) (mk := (fun (c : ((List (List Int)) × (List (List Int)))) (a : Int) => ((c.1, c.2, a, ()), (())))) (unE := (fun (y : ((Unit) × (Unit))) => ((), ()))) rfl (fun _ => rfl) (fun _ => rfl) (fun R K D T c a => by kernel_rfl)

noncomputable abbrev ref05_SameM : Mdl := (mdlOf (.cons (.d false (.slice (.slice (.int .i64)))) (.cons (.d false (.slice (.slice (.int .i64)))) .nil)) [] [] 1 ref05_SameR_ (fun (b : Bool) => ((b, ()), (()))) (fun (a : (((List (List Int)) × (List (List Int)) × Unit) × (Unit))) => ref05_Same a.1.1 a.1.2.1))

theorem ref05_Same_ok : MdlOK Try.prog 15 ref05_SameM :=
  fn_ok (c := (bodyOf Try.f15)) Try.func15 (by rfl) (by kernel_rfl) (X := ref05_SameX) (by kernel_rfl) (rs := [.tmp 4]) (by kernel_rfl) (sh := ref05_SameR_) (un := (fun (x : ((Bool × Unit) × (Unit))) => x.1.1)) (mk := (fun (b : Bool) => ((b, ()), (())))) (fun _ => rfl) rfl (ref05_SameG) mixed (ann := (.two .z (.two .z (.two (.two .z (.s 0)) .z)))) (AllS.all (l := [(0, .block 0 (.loop (subC (bodyOf Try.f15) [true, true, false, true, false, false])))]) (by kernel_rfl) ⟨ref05_SameS0, trivial⟩) (Nat.le_of_ble_eq_true (by kernel_rfl)) (by kernel_rfl) (fun a => by kernel_rfl)

/-! casebook/casebooklaw05.awake -/

def law05_awakeR_ : Shp := ⟨[(0, .d true .bool)], []⟩

noncomputable abbrev law05_awakeX : Ctx (Bool) := ⟨68, tt, false, [], gam [(24, matrix_RankM), (13, matrix_KernelM), (16, matrix_SolveM), (17, matrix_RefuteM), (15, ref05_SameM), (21, ref05_SameRowM)], lam [], resU 68 tt [] [.tmp 0] law05_awakeR_ (fun (x : ((Bool × Unit) × (Unit))) => x.1.1)⟩

theorem law05_awakeG : CtxOK Try.prog law05_awakeX := ⟨fits, gam_ok (AllM.all (l := [(24, matrix_RankM), (13, matrix_KernelM), (16, matrix_SolveM), (17, matrix_RefuteM), (15, ref05_SameM), (21, ref05_SameRowM)]) ⟨matrix_Rank_ok, matrix_Kernel_ok, matrix_Solve_ok, matrix_Refute_ok, ref05_Same_ok, ref05_SameRow_ok, trivial⟩)⟩

noncomputable abbrev law05_awakeM : Mdl := (mdlOf .nil [] [] 1 law05_awakeR_ (fun (b : Bool) => ((b, ()), (()))) (fun (a : ((Unit) × (Unit))) => law05_awake ))

theorem law05_awake_ok : MdlOK Try.prog 11 law05_awakeM :=
  fn_ok (c := (bodyOf Try.f11)) Try.func11 (by rfl) (by kernel_rfl) (X := law05_awakeX) (by kernel_rfl) (rs := [.tmp 0]) (by kernel_rfl) (sh := law05_awakeR_) (un := (fun (x : ((Bool × Unit) × (Unit))) => x.1.1)) (mk := (fun (b : Bool) => ((b, ()), (())))) (fun _ => rfl) rfl (law05_awakeG) mixed (ann := .z) (AllS.all (l := []) (by kernel_rfl) trivial) (Nat.le_of_ble_eq_true (by kernel_rfl)) (by kernel_rfl) (fun a => by kernel_rfl)

/-! casebook/casebooklaw05.great -/

def law05_greatR_ : Shp := ⟨[(0, .d true .bool)], []⟩

noncomputable abbrev law05_greatX : Ctx (Bool) := ⟨47, tt, false, [], gam [], lam [loopSumm (Bool) 47 [] law05_greatL0I (C := ((List (List (List Int))) × Int × Int × (List (List Int)) × Int)) (S := Int) (fun (x : (((List (List (List Int))) × Int × Int × (List (List Int)) × Int × Int × Unit) × (Unit))) => ((x.1.1, x.1.2.1, x.1.2.2.1, x.1.2.2.2.1, x.1.2.2.2.2.1), x.1.2.2.2.2.2.1)) law05_greatL0E (CE := ((List (List (List Int))) × Int × Int)) (E := Unit) (fun (c : ((List (List (List Int))) × Int × Int)) (e : Unit) => ((c.1, c.2.1, c.2.2, ()), (()))) (fun (c : ((List (List (List Int))) × Int × Int × (List (List Int)) × Int)) => (c.1, c.2.1, c.2.2.1)) (fun {R} c a nx dn rt => law05_greatL0K c.1 c.2.1 c.2.2.1 c.2.2.2.1 c.2.2.2.2 a nx dn rt),
  joinSumm (Bool) 47 [] law05_greatT1I (A := ((List (List Int)) × (List (List (List Int))) × Int × Int)) (fun (x : (((List (List Int)) × (List (List (List Int))) × Int × Int × Unit) × (Unit))) => (x.1.1, x.1.2.1, x.1.2.2.1, x.1.2.2.2.1)) law05_greatT1E (CE := ((List (List (List Int))) × Int × Int)) (E := Unit) (fun (c : ((List (List (List Int))) × Int × Int)) (e : Unit) => ((c.1, c.2.1, c.2.2, ()), (()))) (fun (c : ((List (List Int)) × (List (List (List Int))) × Int × Int)) => (c.2.1, c.2.2.1, c.2.2.2)) (fun {R} c dn rt => law05_greatT1K c.1 c.2.1 c.2.2.1 c.2.2.2 dn rt),
  loopSumm (Bool) 47 [] law05_greatL2I (C := ((List (List (List Int))) × Int)) (S := Int) (fun (x : (((List (List (List Int))) × Int × Int × Unit) × (Unit))) => ((x.1.1, x.1.2.1), x.1.2.2.1)) law05_greatL2E (CE := Unit) (E := Unit) (fun (c : Unit) (e : Unit) => ((()), (()))) (fun (c : ((List (List (List Int))) × Int)) => ()) (fun {R} c a nx dn rt => law05_greatL2K c.1 c.2 a nx dn rt)], resU 47 tt [] [.tmp 2] law05_greatR_ (fun (x : ((Bool × Unit) × (Unit))) => x.1.1)⟩

theorem law05_greatG : CtxOK Try.prog law05_greatX := ⟨fits, gam_ok (AllM.all (l := []) trivial)⟩

theorem law05_greatS0 : SummOK Try.prog law05_greatX 0 (.block 2 (.loop (subC (bodyOf Try.f12) [true, false, true, false, false, true, true, false, false, true, true, true, false, false]))) :=
  loop_ok (shI := law05_greatL0I) (shE := law05_greatL0E) (C := ((List (List (List Int))) × Int × Int × (List (List Int)) × Int)) (S := Int) (CE := ((List (List (List Int))) × Int × Int)) (E := Unit) (law05_greatG) mixed (ann := .z) (AllS.all (l := []) (by kernel_rfl) trivial) (mk := (fun (c : ((List (List (List Int))) × Int × Int × (List (List Int)) × Int)) (a : Int) => ((c.1, c.2.1, c.2.2.1, c.2.2.2.1, c.2.2.2.2, a, ()), (())))) (unE := (fun (y : (((List (List (List Int))) × Int × Int × Unit) × (Unit))) => ((y.1.1, y.1.2.1, y.1.2.2.1), ()))) rfl (fun _ => rfl) (fun _ => rfl) (fun R K D T c a => by kernel_rfl)

theorem law05_greatS1 : SummOK Try.prog law05_greatX 1 (subC (bodyOf Try.f12) [true, false, true, false, false, true, true, false, false, true, true]) :=
  join_ok (shI := law05_greatT1I) (shE := law05_greatT1E) (A := ((List (List Int)) × (List (List (List Int))) × Int × Int)) (CE := ((List (List (List Int))) × Int × Int)) (E := Unit) (law05_greatG) mixed (ann := (.two .z (.s 0))) (AllS.all (l := [(0, .block 2 (.loop (subC (bodyOf Try.f12) [true, false, true, false, false, true, true, false, false, true, true, true, false, false])))]) (by kernel_rfl) ⟨law05_greatS0, trivial⟩) (mk := (fun (c : ((List (List Int)) × (List (List (List Int))) × Int × Int)) => ((c.1, c.2.1, c.2.2.1, c.2.2.2, ()), (())))) (unE := (fun (y : (((List (List (List Int))) × Int × Int × Unit) × (Unit))) => ((y.1.1, y.1.2.1, y.1.2.2.1), ()))) rfl (fun _ => rfl) (fun _ => rfl) (fun R D T c => by kernel_rfl)

theorem law05_greatS2 : SummOK Try.prog law05_greatX 2 (.block 0 (.loop (subC (bodyOf Try.f12) [true, false, true, false, false]))) :=
  loop_ok (shI := law05_greatL2I) (shE := law05_greatL2E) (C := ((List (List (List Int))) × Int)) (S := Int) (CE := Unit) (E := Unit) (law05_greatG) mixed (ann := (.two .z (.two .z (.two (.one (.two .z (.two .z (.s 1)))) .z)))) (AllS.all (l := [(1, subC (bodyOf Try.f12) [true, false, true, false, false, true, true, false, false, true, true])]) (by kernel_rfl) ⟨law05_greatS1, trivial⟩) (mk := (fun (c : ((List (List (List Int))) × Int)) (a : Int) => ((c.1, c.2, a, ()), (())))) (unE := (fun (y : ((Unit) × (Unit))) => ((), ()))) rfl (fun _ => rfl) (fun _ => rfl) (fun R K D T c a => by kernel_rfl)

noncomputable abbrev law05_greatM : Mdl := (mdlOf (.cons (.d false (.slice (.slice (.slice (.int .i64))))) .nil) [] [] 1 law05_greatR_ (fun (b : Bool) => ((b, ()), (()))) (fun (a : (((List (List (List Int))) × Unit) × (Unit))) => law05_great a.1.1))

theorem law05_great_ok : MdlOK Try.prog 12 law05_greatM :=
  fn_ok (c := (bodyOf Try.f12)) Try.func12 (by rfl) (by kernel_rfl) (X := law05_greatX) (by kernel_rfl) (rs := [.tmp 2]) (by kernel_rfl) (sh := law05_greatR_) (un := (fun (x : ((Bool × Unit) × (Unit))) => x.1.1)) (mk := (fun (b : Bool) => ((b, ()), (())))) (fun _ => rfl) rfl (law05_greatG) mixed (ann := (.two .z (.two (.two .z (.s 2)) .z))) (AllS.all (l := [(2, .block 0 (.loop (subC (bodyOf Try.f12) [true, false, true, false, false])))]) (by kernel_rfl) ⟨law05_greatS2, trivial⟩) (Nat.le_of_ble_eq_true (by kernel_rfl)) (by kernel_rfl) (fun a => by kernel_rfl)

/-! casebook/casebookref05.Column -/

def ref05_ColumnR_ : Shp := ⟨[(0, .d true .bool)], []⟩

noncomputable abbrev ref05_ColumnX : Ctx (Bool) := ⟨30, tt, false, [], gam [], lam [loopSumm (Bool) 30 [] ref05_ColumnL0I (C := (List Int)) (S := Int) (fun (x : (((List Int) × Int × Unit) × (Unit))) => (x.1.1, x.1.2.1)) ref05_ColumnL0E (CE := Unit) (E := Unit) (fun (c : Unit) (e : Unit) => ((()), (()))) (fun (c : (List Int)) => ()) (fun {R} c a nx dn rt => ref05_ColumnL0K c a nx dn rt)], resU 30 tt [] [.tmp 2] ref05_ColumnR_ (fun (x : ((Bool × Unit) × (Unit))) => x.1.1)⟩

theorem ref05_ColumnG : CtxOK Try.prog ref05_ColumnX := ⟨fits, gam_ok (AllM.all (l := []) trivial)⟩

theorem ref05_ColumnS0 : SummOK Try.prog ref05_ColumnX 0 (.block 0 (.loop (subC (bodyOf Try.f26) [true, true, false, true, false, false]))) :=
  loop_ok (shI := ref05_ColumnL0I) (shE := ref05_ColumnL0E) (C := (List Int)) (S := Int) (CE := Unit) (E := Unit) (ref05_ColumnG) mixed (ann := .z) (AllS.all (l := []) (by kernel_rfl) trivial) (mk := (fun (c : (List Int)) (a : Int) => ((c, a, ()), (())))) (unE := (fun (y : ((Unit) × (Unit))) => ((), ()))) rfl (fun _ => rfl) (fun _ => rfl) (fun R K D T c a => by kernel_rfl)

noncomputable abbrev ref05_ColumnM : Mdl := (mdlOf (.cons (.d false (.slice (.int .i64))) .nil) [] [] 1 ref05_ColumnR_ (fun (b : Bool) => ((b, ()), (()))) (fun (a : (((List Int) × Unit) × (Unit))) => ref05_Column a.1.1))

theorem ref05_Column_ok : MdlOK Try.prog 26 ref05_ColumnM :=
  fn_ok (c := (bodyOf Try.f26)) Try.func26 (by rfl) (by kernel_rfl) (X := ref05_ColumnX) (by kernel_rfl) (rs := [.tmp 2]) (by kernel_rfl) (sh := ref05_ColumnR_) (un := (fun (x : ((Bool × Unit) × (Unit))) => x.1.1)) (mk := (fun (b : Bool) => ((b, ()), (())))) (fun _ => rfl) rfl (ref05_ColumnG) mixed (ann := (.two .z (.two .z (.two (.two .z (.s 0)) .z)))) (AllS.all (l := [(0, .block 0 (.loop (subC (bodyOf Try.f26) [true, true, false, true, false, false])))]) (by kernel_rfl) ⟨ref05_ColumnS0, trivial⟩) (Nat.le_of_ble_eq_true (by kernel_rfl)) (by kernel_rfl) (fun a => by kernel_rfl)

/-! casebook/casebookref05.Valid -/

def ref05_ValidR_ : Shp := ⟨[(0, .d true .bool)], []⟩

noncomputable abbrev ref05_ValidX : Ctx (Bool) := ⟨36, tt, false, [], gam [(26, ref05_ColumnM)], lam [loopSumm (Bool) 36 [] ref05_ValidL0I (C := (List (List Int))) (S := Int) (fun (x : (((List (List Int)) × Int × Unit) × (Unit))) => (x.1.1, x.1.2.1)) ref05_ValidL0E (CE := Unit) (E := Unit) (fun (c : Unit) (e : Unit) => ((()), (()))) (fun (c : (List (List Int))) => ()) (fun {R} c a nx dn rt => ref05_ValidL0K c a nx dn rt)], resU 36 tt [] [.tmp 2] ref05_ValidR_ (fun (x : ((Bool × Unit) × (Unit))) => x.1.1)⟩

theorem ref05_ValidG : CtxOK Try.prog ref05_ValidX := ⟨fits, gam_ok (AllM.all (l := [(26, ref05_ColumnM)]) ⟨ref05_Column_ok, trivial⟩)⟩

theorem ref05_ValidS0 : SummOK Try.prog ref05_ValidX 0 (.block 0 (.loop (subC (bodyOf Try.f22) [true, true, false, true, false, false]))) :=
  loop_ok (shI := ref05_ValidL0I) (shE := ref05_ValidL0E) (C := (List (List Int))) (S := Int) (CE := Unit) (E := Unit) (ref05_ValidG) mixed (ann := (.two .z (.two (.one (.two (.d [0, 0, 3, 7, 15, 0, 32, 96, 224, 511, 1023, 2047, 2047, 8191, 16383, 32767, 65535, 131071] [] []) .z)) .z))) (AllS.all (l := []) (by kernel_rfl) trivial) (mk := (fun (c : (List (List Int))) (a : Int) => ((c, a, ()), (())))) (unE := (fun (y : ((Unit) × (Unit))) => ((), ()))) rfl (fun _ => rfl) (fun _ => rfl) (fun R K D T c a => by kernel_rfl)

noncomputable abbrev ref05_ValidM : Mdl := (mdlOf (.cons (.d false (.slice (.slice (.int .i64)))) .nil) [] [] 1 ref05_ValidR_ (fun (b : Bool) => ((b, ()), (()))) (fun (a : (((List (List Int)) × Unit) × (Unit))) => ref05_Valid a.1.1))

theorem ref05_Valid_ok : MdlOK Try.prog 22 ref05_ValidM :=
  fn_ok (c := (bodyOf Try.f22)) Try.func22 (by rfl) (by kernel_rfl) (X := ref05_ValidX) (by kernel_rfl) (rs := [.tmp 2]) (by kernel_rfl) (sh := ref05_ValidR_) (un := (fun (x : ((Bool × Unit) × (Unit))) => x.1.1)) (mk := (fun (b : Bool) => ((b, ()), (())))) (fun _ => rfl) rfl (ref05_ValidG) mixed (ann := (.two .z (.two .z (.two (.two .z (.s 0)) .z)))) (AllS.all (l := [(0, .block 0 (.loop (subC (bodyOf Try.f22) [true, true, false, true, false, false])))]) (by kernel_rfl) ⟨ref05_ValidS0, trivial⟩) (Nat.le_of_ble_eq_true (by kernel_rfl)) (by kernel_rfl) (fun a => by kernel_rfl)

/-! casebook/casebookref01.Of -/

def ref01_OfR_ : Shp := ⟨[(0, .d true Frac.ty)], []⟩

noncomputable abbrev ref01_OfX : Ctx (Frac) := ⟨5, tt, false, [], gam [], lam [], resU 5 tt [] [.cell 2 50] ref01_OfR_ (fun (x : ((Frac × Unit) × (Unit))) => x.1.1)⟩

theorem ref01_OfG : CtxOK Try.prog ref01_OfX := ⟨fits, gam_ok (AllM.all (l := []) trivial)⟩

noncomputable abbrev ref01_OfM : Mdl := (mdlOf (.cons (.d false (.int .i64)) .nil) [] [] 1 ref01_OfR_ (fun (b : Frac) => ((b, ()), (()))) (fun (a : ((Int × Unit) × (Unit))) => ref01_Of a.1.1))

theorem ref01_Of_ok : MdlOK Try.prog 27 ref01_OfM :=
  fn_ok (c := (bodyOf Try.f27)) Try.func27 (by rfl) (by kernel_rfl) (X := ref01_OfX) (by kernel_rfl) (rs := [.cell 2 50]) (by kernel_rfl) (sh := ref01_OfR_) (un := (fun (x : ((Frac × Unit) × (Unit))) => x.1.1)) (mk := (fun (b : Frac) => ((b, ()), (())))) (fun _ => rfl) rfl (ref01_OfG) mixed (ann := .z) (AllS.all (l := []) (by kernel_rfl) trivial) (Nat.le_of_ble_eq_true (by kernel_rfl)) (by kernel_rfl) (fun a => by kernel_rfl)

/-! casebook/casebookref01.Make -/

def ref01_MakeR_ : Shp := ⟨[(0, .d true Frac.ty), (1, .d true (.int .i64))], []⟩

noncomputable abbrev ref01_MakeX : Ctx ((Frac × Int)) := ⟨59, tt, false, [], gam [], lam [loopSumm ((Frac × Int)) 59 [] ref01_MakeL0I (C := (Int × Int × Int × Int)) (S := (Int × Int)) (fun (x : ((Int × Int × Unit × Int × Int × Unit) × ((Int × Int × Unit) × Unit))) => ((x.1.1, x.1.2.1, x.2.1.1, x.2.1.2.1), (x.1.2.2.2.1, x.1.2.2.2.2.1))) ref01_MakeL0E (CE := (Int × Int × Int × Int)) (E := Int) (fun (c : (Int × Int × Int × Int)) (e : Int) => ((c.1, c.2.1, (), e, ()), ((c.2.2.1, c.2.2.2, ()), ()))) (fun (c : (Int × Int × Int × Int)) => (c.1, c.2.1, c.2.2.1, c.2.2.2)) (fun {R} c a nx dn rt => ref01_MakeL0K c.1 c.2.1 c.2.2.1 c.2.2.2 a.1 a.2 nx dn rt),
  joinSumm ((Frac × Int)) 59 [] ref01_MakeT1I (A := (Int × Int × Bool × Int × Int)) (fun (x : ((Unit × Int × Int × Bool × Unit) × ((Int × Int × Unit) × Unit))) => (x.1.2.1, x.1.2.2.1, x.1.2.2.2.1, x.2.1.1, x.2.1.2.1)) ref01_MakeT1E (CE := (Int × Int × Int × Int)) (E := Unit) (fun (c : (Int × Int × Int × Int)) (e : Unit) => (((), c.1, c.2.1, ()), ((c.2.2.1, c.2.2.2, ()), ()))) (fun (c : (Int × Int × Bool × Int × Int)) => (c.1, c.2.1, c.2.2.2.1, c.2.2.2.2)) (fun {R} c dn rt => ref01_MakeT1K c.1 c.2.1 c.2.2.1 c.2.2.2.1 c.2.2.2.2 dn rt),
  joinSumm ((Frac × Int)) 59 [] ref01_MakeT2I (A := (Int × Int × Int × Int)) (fun (x : ((Unit × Int × Int × Unit) × ((Int × Int × Unit) × Unit))) => (x.1.2.1, x.1.2.2.1, x.2.1.1, x.2.1.2.1)) ref01_MakeT2E (CE := Unit) (E := Unit) (fun (c : Unit) (e : Unit) => ((()), (()))) (fun (c : (Int × Int × Int × Int)) => ()) (fun {R} c dn rt => ref01_MakeT2K c.1 c.2.1 c.2.2.1 c.2.2.2 dn rt),
  joinSumm ((Frac × Int)) 59 [] ref01_MakeT3I (A := (Int × Int × Int × Int × Int × Int)) (fun (x : ((Int × Int × Unit × Int × Int × Unit) × ((Int × Int × Unit) × Unit))) => (x.1.1, x.1.2.1, x.1.2.2.2.1, x.1.2.2.2.2.1, x.2.1.1, x.2.1.2.1)) ref01_MakeT3E (CE := Unit) (E := Unit) (fun (c : Unit) (e : Unit) => ((()), (()))) (fun (c : (Int × Int × Int × Int × Int × Int)) => ()) (fun {R} c dn rt => ref01_MakeT3K c.1 c.2.1 c.2.2.1 c.2.2.2.1 c.2.2.2.2.1 c.2.2.2.2.2 dn rt),
  joinSumm ((Frac × Int)) 59 [] ref01_MakeT4I (A := (Int × Int × Int × Int × Int)) (fun (x : ((Int × Int × Unit × Int × Unit) × ((Int × Int × Unit) × Unit))) => (x.1.1, x.1.2.1, x.1.2.2.2.1, x.2.1.1, x.2.1.2.1)) ref01_MakeT4E (CE := Unit) (E := Unit) (fun (c : Unit) (e : Unit) => ((()), (()))) (fun (c : (Int × Int × Int × Int × Int)) => ()) (fun {R} c dn rt => ref01_MakeT4K c.1 c.2.1 c.2.2.1 c.2.2.2.1 c.2.2.2.2 dn rt)], resU 59 tt [] [.cell 4 50, .tmp 5] ref01_MakeR_ (fun (x : ((Frac × Int × Unit) × (Unit))) => (x.1.1, x.1.2.1))⟩

theorem ref01_MakeG : CtxOK Try.prog ref01_MakeX := ⟨fits, gam_ok (AllM.all (l := []) trivial)⟩

theorem ref01_MakeS1 : SummOK Try.prog ref01_MakeX 1 (subC (bodyOf Try.f48) [true, true, true, true, true, true, true, true, true, true, false, true]) :=
  join_ok (shI := ref01_MakeT1I) (shE := ref01_MakeT1E) (A := (Int × Int × Bool × Int × Int)) (CE := (Int × Int × Int × Int)) (E := Unit) (ref01_MakeG) mixed (ann := .z) (AllS.all (l := []) (by kernel_rfl) trivial) (mk := (fun (c : (Int × Int × Bool × Int × Int)) => (((), c.1, c.2.1, c.2.2.1, ()), ((c.2.2.2.1, c.2.2.2.2, ()), ())))) (unE := (fun (y : ((Unit × Int × Int × Unit) × ((Int × Int × Unit) × Unit))) => ((y.1.2.1, y.1.2.2.1, y.2.1.1, y.2.1.2.1), ()))) rfl (fun _ => rfl) (fun _ => rfl) (fun R D T c => by kernel_rfl)

theorem ref01_MakeS2 : SummOK Try.prog ref01_MakeX 2 (subC (bodyOf Try.f48) [true, true, true, true, true, true, true, true, true, true, true]) :=
  join_ok (shI := ref01_MakeT2I) (shE := ref01_MakeT2E) (A := (Int × Int × Int × Int)) (CE := Unit) (E := Unit) (ref01_MakeG) mixed (ann := .z) (AllS.all (l := []) (by kernel_rfl) trivial) (mk := (fun (c : (Int × Int × Int × Int)) => (((), c.1, c.2.1, ()), ((c.2.2.1, c.2.2.2, ()), ())))) (unE := (fun (y : ((Unit) × (Unit))) => ((), ()))) rfl (fun _ => rfl) (fun _ => rfl) (fun R D T c => by kernel_rfl)

theorem ref01_MakeS0 : SummOK Try.prog ref01_MakeX 0 (.block 0 (.loop (subC (bodyOf Try.f48) [true, true, true, true, true, true, false, false, false]))) :=
  loop_ok (shI := ref01_MakeL0I) (shE := ref01_MakeL0E) (C := (Int × Int × Int × Int)) (S := (Int × Int)) (CE := (Int × Int × Int × Int)) (E := Int) (ref01_MakeG) mixed (ann := (.two .z (.one (.d [0, 0, 0, 6, 3, 31] [] [])))) (AllS.all (l := []) (by kernel_rfl) trivial) (mk := (fun (c : (Int × Int × Int × Int)) (a : (Int × Int)) => ((c.1, c.2.1, (), a.1, a.2, ()), ((c.2.2.1, c.2.2.2, ()), ())))) (unE := (fun (y : ((Int × Int × Unit × Int × Unit) × ((Int × Int × Unit) × Unit))) => ((y.1.1, y.1.2.1, y.2.1.1, y.2.1.2.1), y.1.2.2.2.1))) rfl (fun _ => rfl) (fun _ => rfl) (fun R K D T c a => by kernel_rfl)

theorem ref01_MakeS3 : SummOK Try.prog ref01_MakeX 3 (subC (bodyOf Try.f48) [true, true, true, true, true, true]) :=
  join_ok (shI := ref01_MakeT3I) (shE := ref01_MakeT3E) (A := (Int × Int × Int × Int × Int × Int)) (CE := Unit) (E := Unit) (ref01_MakeG) mixed (ann := (.two (.s 0) (.two .z (.two .z (.two .z (.two (.two .z (.s 1)) (.s 2))))))) (AllS.all (l := [(0, .block 0 (.loop (subC (bodyOf Try.f48) [true, true, true, true, true, true, false, false, false]))), (1, subC (bodyOf Try.f48) [true, true, true, true, true, true, true, true, true, true, false, true]), (2, subC (bodyOf Try.f48) [true, true, true, true, true, true, true, true, true, true, true])]) (by kernel_rfl) ⟨ref01_MakeS0, ref01_MakeS1, ref01_MakeS2, trivial⟩) (mk := (fun (c : (Int × Int × Int × Int × Int × Int)) => ((c.1, c.2.1, (), c.2.2.1, c.2.2.2.1, ()), ((c.2.2.2.2.1, c.2.2.2.2.2, ()), ())))) (unE := (fun (y : ((Unit) × (Unit))) => ((), ()))) rfl (fun _ => rfl) (fun _ => rfl) (fun R D T c => by kernel_rfl)

theorem ref01_MakeS4 : SummOK Try.prog ref01_MakeX 4 (subC (bodyOf Try.f48) [true, true, true, true]) :=
  join_ok (shI := ref01_MakeT4I) (shE := ref01_MakeT4E) (A := (Int × Int × Int × Int × Int)) (CE := Unit) (E := Unit) (ref01_MakeG) mixed (ann := (.two .z (.two .z (.s 3)))) (AllS.all (l := [(3, subC (bodyOf Try.f48) [true, true, true, true, true, true])]) (by kernel_rfl) ⟨ref01_MakeS3, trivial⟩) (mk := (fun (c : (Int × Int × Int × Int × Int)) => ((c.1, c.2.1, (), c.2.2.1, ()), ((c.2.2.2.1, c.2.2.2.2, ()), ())))) (unE := (fun (y : ((Unit) × (Unit))) => ((), ()))) rfl (fun _ => rfl) (fun _ => rfl) (fun R D T c => by kernel_rfl)

noncomputable abbrev ref01_MakeM : Mdl := (mdlOf (.cons (.d false (.int .i64)) (.cons (.d false (.int .i64)) .nil)) [] [] 2 ref01_MakeR_ (fun (b : (Frac × Int)) => ((b.1, b.2, ()), (()))) (fun (a : ((Int × Int × Unit) × (Unit))) => ref01_Make a.1.1 a.1.2.1))

theorem ref01_Make_ok : MdlOK Try.prog 48 ref01_MakeM :=
  fn_ok (c := (bodyOf Try.f48)) Try.func48 (by rfl) (by kernel_rfl) (X := ref01_MakeX) (by kernel_rfl) (rs := [.cell 4 50, .tmp 5]) (by kernel_rfl) (sh := ref01_MakeR_) (un := (fun (x : ((Frac × Int × Unit) × (Unit))) => (x.1.1, x.1.2.1))) (mk := (fun (b : (Frac × Int)) => ((b.1, b.2, ()), (())))) (fun _ => rfl) rfl (ref01_MakeG) mixed (ann := (.two .z (.two .z (.two .z (.two .z (.s 4)))))) (AllS.all (l := [(4, subC (bodyOf Try.f48) [true, true, true, true])]) (by kernel_rfl) ⟨ref01_MakeS4, trivial⟩) (Nat.le_of_ble_eq_true (by kernel_rfl)) (by kernel_rfl) (fun a => by kernel_rfl)

/-! casebook/casebookref05.zeros -/

def ref05_zerosR_ : Shp := ⟨[(0, .own 0)], [.arr 32 .own [3] (.slice (.int .i64))]⟩

noncomputable abbrev ref05_zerosX : Ctx ((List (List Int))) := ⟨18, tt, false, [], gam [], lam [loopSumm ((List (List Int))) 18 [] ref05_zerosL0I (C := (Int × Int)) (S := (Int × (List (List Int)))) (fun (x : ((Int × Int × Unit × Int × Unit) × ((List (List Int)) × Unit))) => ((x.1.1, x.1.2.1), (x.1.2.2.2.1, x.2.1))) ref05_zerosL0E (CE := Unit) (E := (List (List Int))) (fun (c : Unit) (e : (List (List Int))) => (((), ()), (e, ()))) (fun (c : (Int × Int)) => ()) (fun {R} c a nx dn rt => ref05_zerosL0K c.1 c.2 a.1 a.2 nx dn rt)], resU 18 tt [] [.tmp 4] ref05_zerosR_ (fun (x : ((Unit × Unit) × ((List (List Int)) × Unit))) => x.2.1)⟩

theorem ref05_zerosG : CtxOK Try.prog ref05_zerosX := ⟨fits, gam_ok (AllM.all (l := []) trivial)⟩

theorem ref05_zerosS0 : SummOK Try.prog ref05_zerosX 0 (.block 0 (.loop (subC (bodyOf Try.f51) [true, true, false, true, false, false]))) :=
  loop_ok (shI := ref05_zerosL0I) (shE := ref05_zerosL0E) (C := (Int × Int)) (S := (Int × (List (List Int)))) (CE := Unit) (E := (List (List Int))) (ref05_zerosG) mixed (ann := .z) (AllS.all (l := []) (by kernel_rfl) trivial) (mk := (fun (c : (Int × Int)) (a : (Int × (List (List Int)))) => ((c.1, c.2, (), a.1, ()), (a.2, ())))) (unE := (fun (y : ((Unit × Unit) × ((List (List Int)) × Unit))) => ((), y.2.1))) rfl (fun _ => rfl) (fun _ => rfl) (fun R K D T c a => by kernel_rfl)

noncomputable abbrev ref05_zerosM : Mdl := (mdlOf (.cons (.d false (.int .i64)) (.cons (.d false (.int .i64)) .nil)) [] [] 1 ref05_zerosR_ (fun (b : (List (List Int))) => (((), ()), (b, ()))) (fun (a : ((Int × Int × Unit) × (Unit))) => ref05_zeros a.1.1 a.1.2.1))

theorem ref05_zeros_ok : MdlOK Try.prog 51 ref05_zerosM :=
  fn_ok (c := (bodyOf Try.f51)) Try.func51 (by rfl) (by kernel_rfl) (X := ref05_zerosX) (by kernel_rfl) (rs := [.tmp 4]) (by kernel_rfl) (sh := ref05_zerosR_) (un := (fun (x : ((Unit × Unit) × ((List (List Int)) × Unit))) => x.2.1)) (mk := (fun (b : (List (List Int))) => (((), ()), (b, ())))) (fun _ => rfl) rfl (ref05_zerosG) mixed (ann := (.two .z (.two .z (.two (.two .z (.s 0)) .z)))) (AllS.all (l := [(0, .block 0 (.loop (subC (bodyOf Try.f51) [true, true, false, true, false, false])))]) (by kernel_rfl) ⟨ref05_zerosS0, trivial⟩) (Nat.le_of_ble_eq_true (by kernel_rfl)) (by kernel_rfl) (fun a => by kernel_rfl)

/-! casebook/casebookref05.Transpose -/

def ref05_TransposeR_ : Shp := ⟨[(0, .own 0)], [.arr 32 .own [3] (.slice (.int .i64))]⟩

noncomputable abbrev ref05_TransposeX : Ctx ((List (List Int))) := ⟨41, tt, false, [], gam [(51, ref05_zerosM)], lam [loopSumm ((List (List Int))) 41 [] ref05_TransposeL0I (C := ((List (List Int)) × Int)) (S := (Int × (List (List Int)))) (fun (x : (((List (List Int)) × Unit × Int × Int × Unit) × ((List (List Int)) × Unit))) => ((x.1.1, x.1.2.2.1), (x.1.2.2.2.1, x.2.1))) ref05_TransposeL0E (CE := ((List (List Int)) × Int)) (E := (List (List Int))) (fun (c : ((List (List Int)) × Int)) (e : (List (List Int))) => ((c.1, (), c.2, ()), (e, ()))) (fun (c : ((List (List Int)) × Int)) => (c.1, c.2)) (fun {R} c a nx dn rt => ref05_TransposeL0K c.1 c.2 a.1 a.2 nx dn rt),
  loopSumm ((List (List Int))) 41 [] ref05_TransposeL1I (C := (List (List Int))) (S := (Int × (List (List Int)))) (fun (x : (((List (List Int)) × Unit × Int × Unit) × ((List (List Int)) × Unit))) => (x.1.1, (x.1.2.2.1, x.2.1))) ref05_TransposeL1E (CE := Unit) (E := (List (List Int))) (fun (c : Unit) (e : (List (List Int))) => (((), ()), (e, ()))) (fun (c : (List (List Int))) => ()) (fun {R} c a nx dn rt => ref05_TransposeL1K c a.1 a.2 nx dn rt)], resU 41 tt [] [.tmp 2] ref05_TransposeR_ (fun (x : ((Unit × Unit) × ((List (List Int)) × Unit))) => x.2.1)⟩

theorem ref05_TransposeG : CtxOK Try.prog ref05_TransposeX := ⟨fits, gam_ok (AllM.all (l := [(51, ref05_zerosM)]) ⟨ref05_zeros_ok, trivial⟩)⟩

theorem ref05_TransposeS0 : SummOK Try.prog ref05_TransposeX 0 (.block 2 (.loop (subC (bodyOf Try.f30) [true, true, false, true, false, false, true, false, false, true, false, false]))) :=
  loop_ok (shI := ref05_TransposeL0I) (shE := ref05_TransposeL0E) (C := ((List (List Int)) × Int)) (S := (Int × (List (List Int)))) (CE := ((List (List Int)) × Int)) (E := (List (List Int))) (ref05_TransposeG) mixed (ann := (.two .z (.two (.one (.d [0, 0, 3, 7, 0, 0, 0, 96, 224, 0, 992, 2016, 4095, 8191] [13] [])) .z))) (AllS.all (l := []) (by kernel_rfl) trivial) (mk := (fun (c : ((List (List Int)) × Int)) (a : (Int × (List (List Int)))) => ((c.1, (), c.2, a.1, ()), (a.2, ())))) (unE := (fun (y : (((List (List Int)) × Unit × Int × Unit) × ((List (List Int)) × Unit))) => ((y.1.1, y.1.2.2.1), y.2.1))) rfl (fun _ => rfl) (fun _ => rfl) (fun R K D T c a => by kernel_rfl)

theorem ref05_TransposeS1 : SummOK Try.prog ref05_TransposeX 1 (.block 0 (.loop (subC (bodyOf Try.f30) [true, true, false, true, false, false]))) :=
  loop_ok (shI := ref05_TransposeL1I) (shE := ref05_TransposeL1E) (C := (List (List Int))) (S := (Int × (List (List Int)))) (CE := Unit) (E := (List (List Int))) (ref05_TransposeG) mixed (ann := (.two .z (.two (.one (.two .z (.s 0))) .z))) (AllS.all (l := [(0, .block 2 (.loop (subC (bodyOf Try.f30) [true, true, false, true, false, false, true, false, false, true, false, false])))]) (by kernel_rfl) ⟨ref05_TransposeS0, trivial⟩) (mk := (fun (c : (List (List Int))) (a : (Int × (List (List Int)))) => ((c, (), a.1, ()), (a.2, ())))) (unE := (fun (y : ((Unit × Unit) × ((List (List Int)) × Unit))) => ((), y.2.1))) rfl (fun _ => rfl) (fun _ => rfl) (fun R K D T c a => by kernel_rfl)

noncomputable abbrev ref05_TransposeM : Mdl := (mdlOf (.cons (.d false (.slice (.slice (.int .i64)))) .nil) [] [] 1 ref05_TransposeR_ (fun (b : (List (List Int))) => (((), ()), (b, ()))) (fun (a : (((List (List Int)) × Unit) × (Unit))) => ref05_Transpose a.1.1))

theorem ref05_Transpose_ok : MdlOK Try.prog 30 ref05_TransposeM :=
  fn_ok (c := (bodyOf Try.f30)) Try.func30 (by rfl) (by kernel_rfl) (X := ref05_TransposeX) (by kernel_rfl) (rs := [.tmp 2]) (by kernel_rfl) (sh := ref05_TransposeR_) (un := (fun (x : ((Unit × Unit) × ((List (List Int)) × Unit))) => x.2.1)) (mk := (fun (b : (List (List Int))) => (((), ()), (b, ())))) (fun _ => rfl) rfl (ref05_TransposeG) mixed (ann := (.two .z (.two .z (.two (.two .z (.s 1)) .z)))) (AllS.all (l := [(1, .block 0 (.loop (subC (bodyOf Try.f30) [true, true, false, true, false, false])))]) (by kernel_rfl) ⟨ref05_TransposeS1, trivial⟩) (Nat.le_of_ble_eq_true (by kernel_rfl)) (by kernel_rfl) (fun a => by kernel_rfl)

/-! casebook/casebookref05.Times -/

def ref05_TimesR_ : Shp := ⟨[(0, .d true (.int .i64))], []⟩

noncomputable abbrev ref05_TimesX : Ctx (Int) := ⟨25, tt, false, [], gam [], lam [loopSumm (Int) 25 [] ref05_TimesL0I (C := ((List Int) × (List Int))) (S := (Int × Int)) (fun (x : (((List Int) × (List Int) × Int × Int × Unit) × (Unit))) => ((x.1.1, x.1.2.1), (x.1.2.2.1, x.1.2.2.2.1))) ref05_TimesL0E (CE := Unit) (E := Int) (fun (c : Unit) (e : Int) => ((e, ()), (()))) (fun (c : ((List Int) × (List Int))) => ()) (fun {R} c a nx dn rt => ref05_TimesL0K c.1 c.2 a.1 a.2 nx dn rt)], resU 25 tt [] [.tmp 4] ref05_TimesR_ (fun (x : ((Int × Unit) × (Unit))) => x.1.1)⟩

theorem ref05_TimesG : CtxOK Try.prog ref05_TimesX := ⟨fits, gam_ok (AllM.all (l := []) trivial)⟩

theorem ref05_TimesS0 : SummOK Try.prog ref05_TimesX 0 (.block 0 (.loop (subC (bodyOf Try.f25) [true, true, false, true, false, false]))) :=
  loop_ok (shI := ref05_TimesL0I) (shE := ref05_TimesL0E) (C := ((List Int) × (List Int))) (S := (Int × Int)) (CE := Unit) (E := Int) (ref05_TimesG) mixed (ann := (.two .z (.two (.one (.d [0, 0, 0, 6, 14, 0, 0, 96, 224, 510, 1023, 2047] [] [])) .z))) (AllS.all (l := []) (by kernel_rfl) trivial) (mk := (fun (c : ((List Int) × (List Int))) (a : (Int × Int)) => ((c.1, c.2, a.1, a.2, ()), (())))) (unE := (fun (y : ((Int × Unit) × (Unit))) => ((), y.1.1))) rfl (fun _ => rfl) (fun _ => rfl) (fun R K D T c a => by kernel_rfl)

noncomputable abbrev ref05_TimesM : Mdl := (mdlOf (.cons (.d false (.slice (.int .i64))) (.cons (.d false (.slice (.int .i64))) .nil)) [] [] 1 ref05_TimesR_ (fun (b : Int) => ((b, ()), (()))) (fun (a : (((List Int) × (List Int) × Unit) × (Unit))) => ref05_Times a.1.1 a.1.2.1))

theorem ref05_Times_ok : MdlOK Try.prog 25 ref05_TimesM :=
  fn_ok (c := (bodyOf Try.f25)) Try.func25 (by rfl) (by kernel_rfl) (X := ref05_TimesX) (by kernel_rfl) (rs := [.tmp 4]) (by kernel_rfl) (sh := ref05_TimesR_) (un := (fun (x : ((Int × Unit) × (Unit))) => x.1.1)) (mk := (fun (b : Int) => ((b, ()), (())))) (fun _ => rfl) rfl (ref05_TimesG) mixed (ann := (.two .z (.two .z (.two (.two .z (.s 0)) .z)))) (AllS.all (l := [(0, .block 0 (.loop (subC (bodyOf Try.f25) [true, true, false, true, false, false])))]) (by kernel_rfl) ⟨ref05_TimesS0, trivial⟩) (Nat.le_of_ble_eq_true (by kernel_rfl)) (by kernel_rfl) (fun a => by kernel_rfl)

/-! casebook/casebookref01.Valid -/

def ref01_ValidR_ : Shp := ⟨[(0, .d true .bool)], []⟩

noncomputable abbrev ref01_ValidX : Ctx (Bool) := ⟨34, tt, false, [], gam [(48, ref01_MakeM)], lam [], resU 34 tt [] [.tmp 2] ref01_ValidR_ (fun (x : ((Bool × Unit) × (Unit))) => x.1.1)⟩

theorem ref01_ValidG : CtxOK Try.prog ref01_ValidX := ⟨fits, gam_ok (AllM.all (l := [(48, ref01_MakeM)]) ⟨ref01_Make_ok, trivial⟩)⟩

noncomputable abbrev ref01_ValidM : Mdl := (mdlOf (.cons (.d false Frac.ty) .nil) [] [] 1 ref01_ValidR_ (fun (b : Bool) => ((b, ()), (()))) (fun (a : ((Frac × Unit) × (Unit))) => ref01_Valid a.1.1))

theorem ref01_Valid_ok : MdlOK Try.prog 50 ref01_ValidM :=
  fn_ok (c := (bodyOf Try.f50)) Try.func50 (by rfl) (by kernel_rfl) (X := ref01_ValidX) (by kernel_rfl) (rs := [.tmp 2]) (by kernel_rfl) (sh := ref01_ValidR_) (un := (fun (x : ((Bool × Unit) × (Unit))) => x.1.1)) (mk := (fun (b : Bool) => ((b, ()), (())))) (fun _ => rfl) rfl (ref01_ValidG) mixed (ann := .z) (AllS.all (l := []) (by kernel_rfl) trivial) (Nat.le_of_ble_eq_true (by kernel_rfl)) (by kernel_rfl) (fun a => by kernel_rfl)

/-! casebook/casebookref01.Mul -/

def ref01_MulR_ : Shp := ⟨[(0, .d true Frac.ty), (1, .d true (.int .i64))], []⟩

noncomputable abbrev ref01_MulX : Ctx ((Frac × Int)) := ⟨28, tt, false, [], gam [(50, ref01_ValidM), (48, ref01_MakeM)], lam [], resU 28 tt [] [.cell 4 50, .tmp 5] ref01_MulR_ (fun (x : ((Frac × Int × Unit) × (Unit))) => (x.1.1, x.1.2.1))⟩

theorem ref01_MulG : CtxOK Try.prog ref01_MulX := ⟨fits, gam_ok (AllM.all (l := [(50, ref01_ValidM), (48, ref01_MakeM)]) ⟨ref01_Valid_ok, ref01_Make_ok, trivial⟩)⟩

noncomputable abbrev ref01_MulM : Mdl := (mdlOf (.cons (.d false Frac.ty) (.cons (.d false Frac.ty) .nil)) [] [] 2 ref01_MulR_ (fun (b : (Frac × Int)) => ((b.1, b.2, ()), (()))) (fun (a : ((Frac × Frac × Unit) × (Unit))) => ref01_Mul a.1.1 a.1.2.1))

theorem ref01_Mul_ok : MdlOK Try.prog 28 ref01_MulM :=
  fn_ok (c := (bodyOf Try.f28)) Try.func28 (by rfl) (by kernel_rfl) (X := ref01_MulX) (by kernel_rfl) (rs := [.cell 4 50, .tmp 5]) (by kernel_rfl) (sh := ref01_MulR_) (un := (fun (x : ((Frac × Int × Unit) × (Unit))) => (x.1.1, x.1.2.1))) (mk := (fun (b : (Frac × Int)) => ((b.1, b.2, ()), (())))) (fun _ => rfl) rfl (ref01_MulG) mixed (ann := .z) (AllS.all (l := []) (by kernel_rfl) trivial) (Nat.le_of_ble_eq_true (by kernel_rfl)) (by kernel_rfl) (fun a => by kernel_rfl)

/-! casebook/casebookref01.Add -/

def ref01_AddR_ : Shp := ⟨[(0, .d true Frac.ty), (1, .d true (.int .i64))], []⟩

noncomputable abbrev ref01_AddX : Ctx ((Frac × Int)) := ⟨34, tt, false, [], gam [(50, ref01_ValidM), (48, ref01_MakeM)], lam [], resU 34 tt [] [.cell 4 50, .tmp 5] ref01_AddR_ (fun (x : ((Frac × Int × Unit) × (Unit))) => (x.1.1, x.1.2.1))⟩

theorem ref01_AddG : CtxOK Try.prog ref01_AddX := ⟨fits, gam_ok (AllM.all (l := [(50, ref01_ValidM), (48, ref01_MakeM)]) ⟨ref01_Valid_ok, ref01_Make_ok, trivial⟩)⟩

noncomputable abbrev ref01_AddM : Mdl := (mdlOf (.cons (.d false Frac.ty) (.cons (.d false Frac.ty) .nil)) [] [] 2 ref01_AddR_ (fun (b : (Frac × Int)) => ((b.1, b.2, ()), (()))) (fun (a : ((Frac × Frac × Unit) × (Unit))) => ref01_Add a.1.1 a.1.2.1))

theorem ref01_Add_ok : MdlOK Try.prog 29 ref01_AddM :=
  fn_ok (c := (bodyOf Try.f29)) Try.func29 (by rfl) (by kernel_rfl) (X := ref01_AddX) (by kernel_rfl) (rs := [.cell 4 50, .tmp 5]) (by kernel_rfl) (sh := ref01_AddR_) (un := (fun (x : ((Frac × Int × Unit) × (Unit))) => (x.1.1, x.1.2.1))) (mk := (fun (b : (Frac × Int)) => ((b.1, b.2, ()), (())))) (fun _ => rfl) rfl (ref01_AddG) mixed (ann := .z) (AllS.all (l := []) (by kernel_rfl) trivial) (Nat.le_of_ble_eq_true (by kernel_rfl)) (by kernel_rfl) (fun a => by kernel_rfl)

/-! casebook/casebooklaw05.MatrixAlternative -/

def law05_MatrixAlternativeR_ : Shp := ⟨[(0, .d true .bool)], []⟩

noncomputable abbrev law05_MatrixAlternativeX : Ctx (Bool) := ⟨166, tt, false, [], gam [(11, law05_awakeM), (12, law05_greatM), (22, ref05_ValidM), (26, ref05_ColumnM), (16, matrix_SolveM), (17, matrix_RefuteM), (27, ref01_OfM), (28, ref01_MulM), (29, ref01_AddM), (30, ref05_TransposeM), (25, ref05_TimesM)], lam [loopSumm (Bool) 166 [] law05_MatrixAlternativeL0I (C := ((List Int) × (List Frac) × Int × (List (List Int)) × Int × Int × (List Int) × Int)) (S := (Int × Int × Int)) (fun (x : (((List Int) × (List Frac) × Int × Unit × (List (List Int)) × Int × Int × (List Int) × Int × Int × Unit) × ((Int × Int × Unit) × Unit))) => ((x.1.1, x.1.2.1, x.1.2.2.1, x.1.2.2.2.2.1, x.1.2.2.2.2.2.1, x.1.2.2.2.2.2.2.1, x.1.2.2.2.2.2.2.2.1, x.1.2.2.2.2.2.2.2.2.1), (x.1.2.2.2.2.2.2.2.2.2.1, x.2.1.1, x.2.1.2.1))) law05_MatrixAlternativeL0E (CE := ((List Int) × (List Frac) × Int × (List (List Int)) × Int × Int)) (E := (Int × Int)) (fun (c : ((List Int) × (List Frac) × Int × (List (List Int)) × Int × Int)) (e : (Int × Int)) => ((c.1, c.2.1, c.2.2.1, (), c.2.2.2.1, c.2.2.2.2.1, c.2.2.2.2.2, ()), ((e.1, e.2, ()), ()))) (fun (c : ((List Int) × (List Frac) × Int × (List (List Int)) × Int × Int × (List Int) × Int)) => (c.1, c.2.1, c.2.2.1, c.2.2.2.1, c.2.2.2.2.1, c.2.2.2.2.2.1)) (fun {R} c a nx dn rt => law05_MatrixAlternativeL0K c.1 c.2.1 c.2.2.1 c.2.2.2.1 c.2.2.2.2.1 c.2.2.2.2.2.1 c.2.2.2.2.2.2.1 c.2.2.2.2.2.2.2 a.1 a.2.1 a.2.2 nx dn rt),
  loopSumm (Bool) 166 [] law05_MatrixAlternativeL1I (C := ((List Int) × (List Frac) × (List (List Int)) × Int)) (S := Int) (fun (x : (((List Int) × (List Frac) × (List (List Int)) × Int × Int × Unit) × (Unit))) => ((x.1.1, x.1.2.1, x.1.2.2.1, x.1.2.2.2.1), x.1.2.2.2.2.1)) law05_MatrixAlternativeL1E (CE := Unit) (E := Unit) (fun (c : Unit) (e : Unit) => ((()), (()))) (fun (c : ((List Int) × (List Frac) × (List (List Int)) × Int)) => ()) (fun {R} c a nx dn rt => law05_MatrixAlternativeL1K c.1 c.2.1 c.2.2.1 c.2.2.2 a nx dn rt),
  loopSumm (Bool) 166 [] law05_MatrixAlternativeL2I (C := ((List (List Int)) × (List Int) × (List Int) × (List Int) × Int)) (S := Int) (fun (x : (((List (List Int)) × (List Int) × (List Int) × (List Int) × Int × Int × Unit) × (Unit))) => ((x.1.1, x.1.2.1, x.1.2.2.1, x.1.2.2.2.1, x.1.2.2.2.2.1), x.1.2.2.2.2.2.1)) law05_MatrixAlternativeL2E (CE := ((List (List Int)) × (List Int) × (List Int))) (E := Unit) (fun (c : ((List (List Int)) × (List Int) × (List Int))) (e : Unit) => ((c.1, c.2.1, c.2.2, ()), (()))) (fun (c : ((List (List Int)) × (List Int) × (List Int) × (List Int) × Int)) => (c.1, c.2.1, c.2.2.1)) (fun {R} c a nx dn rt => law05_MatrixAlternativeL2K c.1 c.2.1 c.2.2.1 c.2.2.2.1 c.2.2.2.2 a nx dn rt),
  loopSumm (Bool) 166 [] law05_MatrixAlternativeL3I (C := ((List Int) × (List Int) × (List (List Int)) × Int)) (S := Int) (fun (x : (((List Int) × (List Int) × (List (List Int)) × Int × Int × Unit) × (Unit))) => ((x.1.1, x.1.2.1, x.1.2.2.1, x.1.2.2.2.1), x.1.2.2.2.2.1)) law05_MatrixAlternativeL3E (CE := ((List Int) × (List Int))) (E := Unit) (fun (c : ((List Int) × (List Int))) (e : Unit) => ((c.1, c.2, ()), (()))) (fun (c : ((List Int) × (List Int) × (List (List Int)) × Int)) => (c.1, c.2.1)) (fun {R} c a nx dn rt => law05_MatrixAlternativeL3K c.1 c.2.1 c.2.2.1 c.2.2.2 a nx dn rt)], resU 166 tt [] [.tmp 4] law05_MatrixAlternativeR_ (fun (x : ((Bool × Unit) × (Unit))) => x.1.1)⟩

theorem law05_MatrixAlternativeG : CtxOK Try.prog law05_MatrixAlternativeX := ⟨fits, gam_ok (AllM.all (l := [(11, law05_awakeM), (12, law05_greatM), (22, ref05_ValidM), (26, ref05_ColumnM), (16, matrix_SolveM), (17, matrix_RefuteM), (27, ref01_OfM), (28, ref01_MulM), (29, ref01_AddM), (30, ref05_TransposeM), (25, ref05_TimesM)]) ⟨law05_awake_ok, law05_great_ok, ref05_Valid_ok, ref05_Column_ok, matrix_Solve_ok, matrix_Refute_ok, ref01_Of_ok, ref01_Mul_ok, ref01_Add_ok, ref05_Transpose_ok, ref05_Times_ok, trivial⟩)⟩

theorem law05_MatrixAlternativeS0 : SummOK Try.prog law05_MatrixAlternativeX 0 (.block 2 (.loop (subC (bodyOf Try.f6) [true, true, true, true, true, true, true, false, true, false, true, false, true, false, false, true, true, false, false, true, true, false, true, false, false]))) :=
  loop_ok (shI := law05_MatrixAlternativeL0I) (shE := law05_MatrixAlternativeL0E) (C := ((List Int) × (List Frac) × Int × (List (List Int)) × Int × Int × (List Int) × Int)) (S := (Int × Int × Int)) (CE := ((List Int) × (List Frac) × Int × (List (List Int)) × Int × Int)) (E := (Int × Int)) (law05_MatrixAlternativeG) mixed (ann := (.two .z (.two .z (.two (.one (.two .z (.two (.d [0, 1, 0, 0, 12, 28, 63, 127, 255, 255, 0, 1535, 4095] [11] []) .z))) .z)))) (AllS.all (l := []) (by kernel_rfl) trivial) (mk := (fun (c : ((List Int) × (List Frac) × Int × (List (List Int)) × Int × Int × (List Int) × Int)) (a : (Int × Int × Int)) => ((c.1, c.2.1, c.2.2.1, (), c.2.2.2.1, c.2.2.2.2.1, c.2.2.2.2.2.1, c.2.2.2.2.2.2.1, c.2.2.2.2.2.2.2, a.1, ()), ((a.2.1, a.2.2, ()), ())))) (unE := (fun (y : (((List Int) × (List Frac) × Int × Unit × (List (List Int)) × Int × Int × Unit) × ((Int × Int × Unit) × Unit))) => ((y.1.1, y.1.2.1, y.1.2.2.1, y.1.2.2.2.2.1, y.1.2.2.2.2.2.1, y.1.2.2.2.2.2.2.1), (y.2.1.1, y.2.1.2.1)))) rfl (fun _ => rfl) (fun _ => rfl) (fun R K D T c a => by kernel_rfl)

theorem law05_MatrixAlternativeS1 : SummOK Try.prog law05_MatrixAlternativeX 1 (.block 0 (.loop (subC (bodyOf Try.f6) [true, true, true, true, true, true, true, false, true, false, true, false, true, false, false]))) :=
  loop_ok (shI := law05_MatrixAlternativeL1I) (shE := law05_MatrixAlternativeL1E) (C := ((List Int) × (List Frac) × (List (List Int)) × Int)) (S := Int) (CE := Unit) (E := Unit) (law05_MatrixAlternativeG) mixed (ann := (.two .z (.two .z (.two (.one (.two .z (.two .z (.two (.two .z (.s 0)) (.two (.d [0, 0, 0, 6, 14, 30, 63] [] []) .z))))) .z)))) (AllS.all (l := [(0, .block 2 (.loop (subC (bodyOf Try.f6) [true, true, true, true, true, true, true, false, true, false, true, false, true, false, false, true, true, false, false, true, true, false, true, false, false])))]) (by kernel_rfl) ⟨law05_MatrixAlternativeS0, trivial⟩) (mk := (fun (c : ((List Int) × (List Frac) × (List (List Int)) × Int)) (a : Int) => ((c.1, c.2.1, c.2.2.1, c.2.2.2, a, ()), (())))) (unE := (fun (y : ((Unit) × (Unit))) => ((), ()))) rfl (fun _ => rfl) (fun _ => rfl) (fun R K D T c a => by kernel_rfl)

theorem law05_MatrixAlternativeS3 : SummOK Try.prog law05_MatrixAlternativeX 3 (.block 6 (.loop (subC (bodyOf Try.f6) [true, true, true, true, true, true, true, true, true, true, false, true, false, false]))) :=
  loop_ok (shI := law05_MatrixAlternativeL3I) (shE := law05_MatrixAlternativeL3E) (C := ((List Int) × (List Int) × (List (List Int)) × Int)) (S := Int) (CE := ((List Int) × (List Int))) (E := Unit) (law05_MatrixAlternativeG) mixed (ann := .z) (AllS.all (l := []) (by kernel_rfl) trivial) (mk := (fun (c : ((List Int) × (List Int) × (List (List Int)) × Int)) (a : Int) => ((c.1, c.2.1, c.2.2.1, c.2.2.2, a, ()), (())))) (unE := (fun (y : (((List Int) × (List Int) × Unit) × (Unit))) => ((y.1.1, y.1.2.1), ()))) rfl (fun _ => rfl) (fun _ => rfl) (fun R K D T c a => by kernel_rfl)

theorem law05_MatrixAlternativeS2 : SummOK Try.prog law05_MatrixAlternativeX 2 (.block 4 (.loop (subC (bodyOf Try.f6) [true, true, true, true, true, true, true, true, true, false, true, false, false]))) :=
  loop_ok (shI := law05_MatrixAlternativeL2I) (shE := law05_MatrixAlternativeL2E) (C := ((List (List Int)) × (List Int) × (List Int) × (List Int) × Int)) (S := Int) (CE := ((List (List Int)) × (List Int) × (List Int))) (E := Unit) (law05_MatrixAlternativeG) mixed (ann := .z) (AllS.all (l := []) (by kernel_rfl) trivial) (mk := (fun (c : ((List (List Int)) × (List Int) × (List Int) × (List Int) × Int)) (a : Int) => ((c.1, c.2.1, c.2.2.1, c.2.2.2.1, c.2.2.2.2, a, ()), (())))) (unE := (fun (y : (((List (List Int)) × (List Int) × (List Int) × Unit) × (Unit))) => ((y.1.1, y.1.2.1, y.1.2.2.1), ()))) rfl (fun _ => rfl) (fun _ => rfl) (fun R K D T c a => by kernel_rfl)

noncomputable abbrev law05_MatrixAlternativeM : Mdl := (mdlOf (.cons (.d false (.slice (.slice (.int .i64)))) (.cons (.d false (.slice (.int .i64))) .nil)) [] [] 1 law05_MatrixAlternativeR_ (fun (b : Bool) => ((b, ()), (()))) (fun (a : (((List (List Int)) × (List Int) × Unit) × (Unit))) => law05_MatrixAlternative a.1.1 a.1.2.1))

theorem law05_MatrixAlternative_ok : MdlOK Try.prog 6 law05_MatrixAlternativeM :=
  fn_ok (c := (bodyOf Try.f6)) Try.func6 (by rfl) (by kernel_rfl) (X := law05_MatrixAlternativeX) (by kernel_rfl) (rs := [.tmp 4]) (by kernel_rfl) (sh := law05_MatrixAlternativeR_) (un := (fun (x : ((Bool × Unit) × (Unit))) => x.1.1)) (mk := (fun (b : Bool) => ((b, ()), (())))) (fun _ => rfl) rfl (law05_MatrixAlternativeG) mixed (ann := (.two .z (.two .z (.two .z (.two .z (.two .z (.two .z (.two .z (.two (.two .z (.two (.two .z (.two (.two .z (.s 1)) .z)) .z)) (.two .z (.two (.two .z (.s 2)) (.two (.two .z (.s 3)) .z)))))))))))) (AllS.all (l := [(1, .block 0 (.loop (subC (bodyOf Try.f6) [true, true, true, true, true, true, true, false, true, false, true, false, true, false, false]))), (2, .block 4 (.loop (subC (bodyOf Try.f6) [true, true, true, true, true, true, true, true, true, false, true, false, false]))), (3, .block 6 (.loop (subC (bodyOf Try.f6) [true, true, true, true, true, true, true, true, true, true, false, true, false, false])))]) (by kernel_rfl) ⟨law05_MatrixAlternativeS1, law05_MatrixAlternativeS2, law05_MatrixAlternativeS3, trivial⟩) (Nat.le_of_ble_eq_true (by kernel_rfl)) (by kernel_rfl) (fun a => by kernel_rfl)

end Go.Proofs.Ytjjhanfglelldaa
