/-
  The functions compute what their models say. Made by program (mg.py) out of the translation.
-/
import Derived.Test.YtocpeankecaabaaMd
import Derived.Test.YtocpeankecaabaaTt
set_option linter.all false
set_option maxRecDepth 100000
namespace Go.Proofs.Ytocpeankecaabaa
open Go.Abs Go.T Go.M

/-! casebook/simulate.proper -/

noncomputable def simulate_properX : Ctx (RL.den [.bool]) := ⟨49, tt, gam [], lam [loopSumm (RL.den [.bool]) simulate_properL0I (C := ((List Customer) × (List Customer) × Int)) (S := Int) (fun (x : (((List Customer) × (List Customer) × Int × Int × Unit) × (Unit))) => ((x.1.1, x.1.2.1, x.1.2.2.1), x.1.2.2.2.1)) simulate_properL0E (CE := (List Customer)) (E := Unit) (fun (c : (List Customer)) (e : Unit) => ((c, ()), (()))) (fun (c : ((List Customer) × (List Customer) × Int)) => c.1) (fun {R} c a nx dn rt => simulate_properL0K c.1 c.2.1 c.2.2 a nx dn rt)], resDec 49 tt [.tmp 2] [.bool]⟩

theorem simulate_properG : CtxOK Try.prog simulate_properX := gam_ok (AllM.all (l := []) trivial)

theorem simulate_properS0 : SummOK Try.prog simulate_properX 0 (.block 0 (.loop (subC (bodyOf Try.f41) [true, false, true, false, false]))) :=
  loop_ok (shI := simulate_properL0I) (shE := simulate_properL0E) (C := ((List Customer) × (List Customer) × Int)) (S := Int) (CE := (List Customer)) (E := Unit) simulate_properG fits mixed (ann := .z) (AllS.all (l := []) (by kernel_rfl) trivial) (mk := (fun (c : ((List Customer) × (List Customer) × Int)) (a : Int) => ((c.1, c.2.1, c.2.2, a, ()), (())))) (unE := (fun (y : (((List Customer) × Unit) × (Unit))) => (y.1.1, ()))) rfl (fun _ => rfl) (fun _ => rfl) (fun R K D T c a => by kernel_rfl)

noncomputable def simulate_properM : Mdl := mdlOf (.cons (.d (.slice Customer.ty)) .nil) [.bool] (fun (a : ((List Customer) × Unit)) => simulate_proper a.1)

theorem simulate_proper_ok : MdlOK Try.prog 41 simulate_properM :=
  fn_ok (c := (bodyOf Try.f41)) Try.func41 (by rfl) (by kernel_rfl) (X := simulate_properX) (by kernel_rfl) (rs := [.tmp 2]) (by kernel_rfl) rfl simulate_properG fits mixed (ann := (.two .z (.two (.two .z (.s 0)) .z))) (AllS.all (l := [(0, .block 0 (.loop (subC (bodyOf Try.f41) [true, false, true, false, false])))]) (by kernel_rfl) ⟨simulate_properS0, trivial⟩) (by decide) (fun a => by kernel_rfl)

/-! casebook/simulate.given -/

noncomputable def simulate_givenX : Ctx (RL.den [(.int .i64)]) := ⟨16, tt, gam [(41, simulate_properM)], lam [], resDec 16 tt [.tmp 4] [(.int .i64)]⟩

theorem simulate_givenG : CtxOK Try.prog simulate_givenX := gam_ok (AllM.all (l := [(41, simulate_properM)]) ⟨simulate_proper_ok, trivial⟩)

noncomputable def simulate_givenM : Mdl := mdlOf (.cons (.d (.slice Customer.ty)) (.cons (.d (.int .i64)) .nil)) [(.int .i64)] (fun (a : ((List Customer) × Int × Unit)) => simulate_given a.1 a.2.1)

theorem simulate_given_ok : MdlOK Try.prog 36 simulate_givenM :=
  fn_ok (c := (bodyOf Try.f36)) Try.func36 (by rfl) (by kernel_rfl) (X := simulate_givenX) (by kernel_rfl) (rs := [.tmp 4]) (by kernel_rfl) rfl simulate_givenG fits mixed (ann := .z) (AllS.all (l := []) (by kernel_rfl) trivial) (by decide) (fun a => by kernel_rfl)

/-! slices.Min[[]int,int] -/

noncomputable def slices_Min_int_intX : Ctx (RL.den [(.int .i64)]) := ⟨25, tt, gam [], lam [loopSumm (RL.den [(.int .i64)]) slices_Min_int_intL0I (C := (List Int)) (S := (Int × Int)) (fun (x : (((List Int) × Int × Int × Unit) × (Unit))) => (x.1.1, (x.1.2.1, x.1.2.2.1))) slices_Min_int_intL0E (CE := Unit) (E := Int) (fun (c : Unit) (e : Int) => ((e, ()), (()))) (fun (c : (List Int)) => ()) (fun {R} c a nx dn rt => slices_Min_int_intL0K c a.1 a.2 nx dn rt)], resDec 25 tt [.tmp 2] [(.int .i64)]⟩

theorem slices_Min_int_intG : CtxOK Try.prog slices_Min_int_intX := gam_ok (AllM.all (l := []) trivial)

theorem slices_Min_int_intS0 : SummOK Try.prog slices_Min_int_intX 0 (.block 0 (.loop (subC (bodyOf Try.f60) [true, true, true, false, true, false, false]))) :=
  loop_ok (shI := slices_Min_int_intL0I) (shE := slices_Min_int_intL0E) (C := (List Int)) (S := (Int × Int)) (CE := Unit) (E := Int) slices_Min_int_intG fits mixed (ann := .z) (AllS.all (l := []) (by kernel_rfl) trivial) (mk := (fun (c : (List Int)) (a : (Int × Int)) => ((c, a.1, a.2, ()), (())))) (unE := (fun (y : ((Int × Unit) × (Unit))) => ((), y.1.1))) rfl (fun _ => rfl) (fun _ => rfl) (fun R K D T c a => by kernel_rfl)

noncomputable def slices_Min_int_intM : Mdl := mdlOf (.cons (.d (.slice (.int .i64))) .nil) [(.int .i64)] (fun (a : ((List Int) × Unit)) => slices_Min_int_int a.1)

theorem slices_Min_int_int_ok : MdlOK Try.prog 60 slices_Min_int_intM :=
  fn_ok (c := (bodyOf Try.f60)) Try.func60 (by rfl) (by kernel_rfl) (X := slices_Min_int_intX) (by kernel_rfl) (rs := [.tmp 2]) (by kernel_rfl) rfl slices_Min_int_intG fits mixed (ann := (.two .z (.two .z (.two .z (.two (.two .z (.s 0)) .z))))) (AllS.all (l := [(0, .block 0 (.loop (subC (bodyOf Try.f60) [true, true, true, false, true, false, false])))]) (by kernel_rfl) ⟨slices_Min_int_intS0, trivial⟩) (by decide) (fun a => by kernel_rfl)

/-! slices.Index[[]int,int] -/

noncomputable def slices_Index_int_intX : Ctx (RL.den [(.int .i64)]) := ⟨19, tt, gam [], lam [loopSumm (RL.den [(.int .i64)]) slices_Index_int_intL0I (C := ((List Int) × Int × Int)) (S := Int) (fun (x : (((List Int) × Int × Int × Int × Unit) × (Unit))) => ((x.1.1, x.1.2.1, x.1.2.2.1), x.1.2.2.2.1)) slices_Index_int_intL0E (CE := Unit) (E := Unit) (fun (c : Unit) (e : Unit) => ((()), (()))) (fun (c : ((List Int) × Int × Int)) => ()) (fun {R} c a nx dn rt => slices_Index_int_intL0K c.1 c.2.1 c.2.2 a nx dn rt)], resDec 19 tt [.tmp 4] [(.int .i64)]⟩

theorem slices_Index_int_intG : CtxOK Try.prog slices_Index_int_intX := gam_ok (AllM.all (l := []) trivial)

theorem slices_Index_int_intS0 : SummOK Try.prog slices_Index_int_intX 0 (.block 0 (.loop (subC (bodyOf Try.f59) [true, false, true, false, false]))) :=
  loop_ok (shI := slices_Index_int_intL0I) (shE := slices_Index_int_intL0E) (C := ((List Int) × Int × Int)) (S := Int) (CE := Unit) (E := Unit) slices_Index_int_intG fits mixed (ann := .z) (AllS.all (l := []) (by kernel_rfl) trivial) (mk := (fun (c : ((List Int) × Int × Int)) (a : Int) => ((c.1, c.2.1, c.2.2, a, ()), (())))) (unE := (fun (y : ((Unit) × (Unit))) => ((), ()))) rfl (fun _ => rfl) (fun _ => rfl) (fun R K D T c a => by kernel_rfl)

noncomputable def slices_Index_int_intM : Mdl := mdlOf (.cons (.d (.slice (.int .i64))) (.cons (.d (.int .i64)) .nil)) [(.int .i64)] (fun (a : ((List Int) × Int × Unit)) => slices_Index_int_int a.1 a.2.1)

theorem slices_Index_int_int_ok : MdlOK Try.prog 59 slices_Index_int_intM :=
  fn_ok (c := (bodyOf Try.f59)) Try.func59 (by rfl) (by kernel_rfl) (X := slices_Index_int_intX) (by kernel_rfl) (rs := [.tmp 4]) (by kernel_rfl) rfl slices_Index_int_intG fits mixed (ann := (.two .z (.two (.two .z (.s 0)) .z))) (AllS.all (l := [(0, .block 0 (.loop (subC (bodyOf Try.f59) [true, false, true, false, false])))]) (by kernel_rfl) ⟨slices_Index_int_intS0, trivial⟩) (by decide) (fun a => by kernel_rfl)

/-! casebook/simulate.plain -/

noncomputable def simulate_plainX : Ctx (RL.den [(.int .i64), (.int .i64)]) := ⟨9, tt, gam [], lam [], resDec 9 tt [.tmp 4, .tmp 5] [(.int .i64), (.int .i64)]⟩

theorem simulate_plainG : CtxOK Try.prog simulate_plainX := gam_ok (AllM.all (l := []) trivial)

noncomputable def simulate_plainM : Mdl := mdlOf (.cons (.d (.int .i64)) (.cons (.d (.int .i64)) .nil)) [(.int .i64), (.int .i64)] (fun (a : (Int × Int × Unit)) => simulate_plain a.1 a.2.1)

theorem simulate_plain_ok : MdlOK Try.prog 38 simulate_plainM :=
  fn_ok (c := (bodyOf Try.f38)) Try.func38 (by rfl) (by kernel_rfl) (X := simulate_plainX) (by kernel_rfl) (rs := [.tmp 4, .tmp 5]) (by kernel_rfl) rfl simulate_plainG fits mixed (ann := .z) (AllS.all (l := []) (by kernel_rfl) trivial) (by decide) (fun a => by kernel_rfl)

/-! casebook/simulate.serve -/

noncomputable def simulate_serve_38X : Ctx (RL.den [(.slice Customer.ty), (.int .i64)]) := ⟨59, tt, gam [(60, slices_Min_int_intM), (59, slices_Index_int_intM), (38, simulate_plainM)], lam [loopSumm (RL.den [(.slice Customer.ty), (.int .i64)]) simulate_serve_38L0I (C := ((List Customer) × Int)) (S := (Int × (List Int) × (List Customer))) (fun (x : (((Unit) × Unit × Unit × (List Customer) × Int × Int × Unit) × ((List Int) × (List Customer) × Unit))) => ((x.1.2.2.2.1, x.1.2.2.2.2.1), (x.1.2.2.2.2.2.1, x.2.1, x.2.2.1))) simulate_serve_38L0E (CE := Unit) (E := (List Customer)) (fun (c : Unit) (e : (List Customer)) => (((), ()), (e, ()))) (fun (c : ((List Customer) × Int)) => ()) (fun {R} c a nx dn rt => simulate_serve_38L0K c.1 c.2 a.1 a.2.1 a.2.2 nx dn rt)], resDec 59 tt [.tmp 6, .tmp 7] [(.slice Customer.ty), (.int .i64)]⟩

theorem simulate_serve_38G : CtxOK Try.prog simulate_serve_38X := gam_ok (AllM.all (l := [(60, slices_Min_int_intM), (59, slices_Index_int_intM), (38, simulate_plainM)]) ⟨slices_Min_int_int_ok, slices_Index_int_int_ok, simulate_plain_ok, trivial⟩)

theorem simulate_serve_38S0 : SummOK Try.prog simulate_serve_38X 0 (.block 0 (.loop (subC (bodyOf Try.f37) [true, true, true, false, true, false, false]))) :=
  loop_ok (shI := simulate_serve_38L0I) (shE := simulate_serve_38L0E) (C := ((List Customer) × Int)) (S := (Int × (List Int) × (List Customer))) (CE := Unit) (E := (List Customer)) simulate_serve_38G fits mixed (ann := .z) (AllS.all (l := []) (by kernel_rfl) trivial) (mk := (fun (c : ((List Customer) × Int)) (a : (Int × (List Int) × (List Customer))) => (((()), (), (), c.1, c.2, a.1, ()), (a.2.1, a.2.2, ())))) (unE := (fun (y : ((Unit × Unit) × ((List Customer) × Unit))) => ((), y.2.1))) rfl (fun _ => rfl) (fun _ => rfl) (fun R K D T c a => by kernel_rfl)

noncomputable def simulate_serve_38M : Mdl := mdlOf (.cons (.d (.slice Customer.ty)) (.cons (.d (.int .i64)) (.cons (.fn 38 .nil) .nil))) [(.slice Customer.ty), (.int .i64)] (fun (a : ((List Customer) × Int × (Unit) × Unit)) => simulate_serve_38 a.1 a.2.1)

theorem simulate_serve_38_ok : MdlOK Try.prog 37 simulate_serve_38M :=
  fn_ok (c := (bodyOf Try.f37)) Try.func37 (by rfl) (by kernel_rfl) (X := simulate_serve_38X) (by kernel_rfl) (rs := [.tmp 6, .tmp 7]) (by kernel_rfl) rfl simulate_serve_38G fits mixed (ann := (.two .z (.two .z (.two .z (.two (.two .z (.s 0)) .z))))) (AllS.all (l := [(0, .block 0 (.loop (subC (bodyOf Try.f37) [true, true, true, false, true, false, false])))]) (by kernel_rfl) ⟨simulate_serve_38S0, trivial⟩) (by decide) (fun a => by kernel_rfl)

/-! casebook/simulate.Serve -/

noncomputable def simulate_ServeX : Ctx (RL.den [(.slice Customer.ty), (.int .i64)]) := ⟨18, tt, gam [(36, simulate_givenM), (37, simulate_serve_38M)], lam [], resDec 18 tt [.tmp 4, .tmp 5] [(.slice Customer.ty), (.int .i64)]⟩

theorem simulate_ServeG : CtxOK Try.prog simulate_ServeX := gam_ok (AllM.all (l := [(36, simulate_givenM), (37, simulate_serve_38M)]) ⟨simulate_given_ok, simulate_serve_38_ok, trivial⟩)

noncomputable def simulate_ServeM : Mdl := mdlOf (.cons (.d (.slice Customer.ty)) (.cons (.d (.int .i64)) .nil)) [(.slice Customer.ty), (.int .i64)] (fun (a : ((List Customer) × Int × Unit)) => simulate_Serve a.1 a.2.1)

theorem simulate_Serve_ok : MdlOK Try.prog 14 simulate_ServeM :=
  fn_ok (c := (bodyOf Try.f14)) Try.func14 (by rfl) (by kernel_rfl) (X := simulate_ServeX) (by kernel_rfl) (rs := [.tmp 4, .tmp 5]) (by kernel_rfl) rfl simulate_ServeG fits mixed (ann := .z) (AllS.all (l := []) (by kernel_rfl) trivial) (by decide) (fun a => by kernel_rfl)

/-! casebook/casebooklaw53.awake -/

noncomputable def law53_awakeX : Ctx (RL.den [.bool]) := ⟨64, tt, gam [(14, simulate_ServeM)], lam [], resDec 64 tt [.tmp 0] [.bool]⟩

theorem law53_awakeG : CtxOK Try.prog law53_awakeX := gam_ok (AllM.all (l := [(14, simulate_ServeM)]) ⟨simulate_Serve_ok, trivial⟩)

noncomputable def law53_awakeM : Mdl := mdlOf .nil [.bool] (fun (a : (Unit)) => law53_awake )

theorem law53_awake_ok : MdlOK Try.prog 11 law53_awakeM :=
  fn_ok (c := (bodyOf Try.f11)) Try.func11 (by rfl) (by kernel_rfl) (X := law53_awakeX) (by kernel_rfl) (rs := [.tmp 0]) (by kernel_rfl) rfl law53_awakeG fits mixed (ann := .z) (AllS.all (l := []) (by kernel_rfl) trivial) (by decide) (fun a => by kernel_rfl)

/-! casebook/casebooklaw53.many -/

noncomputable def law53_manyX : Ctx (RL.den [.bool]) := ⟨16, tt, gam [], lam [], resDec 16 tt [.tmp 2] [.bool]⟩

theorem law53_manyG : CtxOK Try.prog law53_manyX := gam_ok (AllM.all (l := []) trivial)

noncomputable def law53_manyM : Mdl := mdlOf (.cons (.d (.slice Customer.ty)) .nil) [.bool] (fun (a : ((List Customer) × Unit)) => law53_many a.1)

theorem law53_many_ok : MdlOK Try.prog 12 law53_manyM :=
  fn_ok (c := (bodyOf Try.f12)) Try.func12 (by rfl) (by kernel_rfl) (X := law53_manyX) (by kernel_rfl) (rs := [.tmp 2]) (by kernel_rfl) rfl law53_manyG fits mixed (ann := .z) (AllS.all (l := []) (by kernel_rfl) trivial) (by decide) (fun a => by kernel_rfl)

/-! casebook/casebookref53.Proper -/

noncomputable def ref53_ProperX : Ctx (RL.den [.bool]) := ⟨61, tt, gam [], lam [loopSumm (RL.den [.bool]) ref53_ProperL0I (C := (List Customer)) (S := Int) (fun (x : (((List Customer) × Int × Unit) × (Unit))) => (x.1.1, x.1.2.1)) ref53_ProperL0E (CE := Unit) (E := Unit) (fun (c : Unit) (e : Unit) => ((()), (()))) (fun (c : (List Customer)) => ()) (fun {R} c a nx dn rt => ref53_ProperL0K c a nx dn rt)], resDec 61 tt [.tmp 2] [.bool]⟩

theorem ref53_ProperG : CtxOK Try.prog ref53_ProperX := gam_ok (AllM.all (l := []) trivial)

theorem ref53_ProperS0 : SummOK Try.prog ref53_ProperX 0 (.block 0 (.loop (subC (bodyOf Try.f13) [true, true, false, true, false, false]))) :=
  loop_ok (shI := ref53_ProperL0I) (shE := ref53_ProperL0E) (C := (List Customer)) (S := Int) (CE := Unit) (E := Unit) ref53_ProperG fits mixed (ann := .z) (AllS.all (l := []) (by kernel_rfl) trivial) (mk := (fun (c : (List Customer)) (a : Int) => ((c, a, ()), (())))) (unE := (fun (y : ((Unit) × (Unit))) => ((), ()))) rfl (fun _ => rfl) (fun _ => rfl) (fun R K D T c a => by kernel_rfl)

noncomputable def ref53_ProperM : Mdl := mdlOf (.cons (.d (.slice Customer.ty)) .nil) [.bool] (fun (a : ((List Customer) × Unit)) => ref53_Proper a.1)

theorem ref53_Proper_ok : MdlOK Try.prog 13 ref53_ProperM :=
  fn_ok (c := (bodyOf Try.f13)) Try.func13 (by rfl) (by kernel_rfl) (X := ref53_ProperX) (by kernel_rfl) (rs := [.tmp 2]) (by kernel_rfl) rfl ref53_ProperG fits mixed (ann := (.two .z (.two .z (.two (.two .z (.s 0)) .z)))) (AllS.all (l := [(0, .block 0 (.loop (subC (bodyOf Try.f13) [true, true, false, true, false, false])))]) (by kernel_rfl) ⟨ref53_ProperS0, trivial⟩) (by decide) (fun a => by kernel_rfl)

/-! casebook/casebooklaw53.SimulateBusy -/

noncomputable def law53_SimulateBusyX : Ctx (RL.den [.bool]) := ⟨156, tt, gam [(11, law53_awakeM), (12, law53_manyM), (13, ref53_ProperM), (14, simulate_ServeM)], lam [loopSumm (RL.den [.bool]) law53_SimulateBusyL0I (C := ((List Customer) × Int × (List Customer) × (List Customer) × Int)) (S := Int) (fun (x : (((List Customer) × Int × (List Customer) × (List Customer) × Int × Int × Unit) × (Unit))) => ((x.1.1, x.1.2.1, x.1.2.2.1, x.1.2.2.2.1, x.1.2.2.2.2.1), x.1.2.2.2.2.2.1)) law53_SimulateBusyL0E (CE := Unit) (E := Unit) (fun (c : Unit) (e : Unit) => ((()), (()))) (fun (c : ((List Customer) × Int × (List Customer) × (List Customer) × Int)) => ()) (fun {R} c a nx dn rt => law53_SimulateBusyL0K c.1 c.2.1 c.2.2.1 c.2.2.2.1 c.2.2.2.2 a nx dn rt),
  loopSumm (RL.den [.bool]) law53_SimulateBusyL1I (C := ((List Customer) × Int × (List Customer) × (List Customer) × Int × Int × (List Customer) × Int × Int × Int × Int × Int)) (S := (Int × Int × Bool × Int)) (fun (x : (((List Customer) × Int × (List Customer) × Unit × Int × Int × Bool × (List Customer) × Int × Int × (List Customer) × Int × Int × Unit) × ((Int × Int × Int × Int × Unit) × Unit))) => ((x.1.1, x.1.2.1, x.1.2.2.1, x.1.2.2.2.2.2.2.2.1, x.1.2.2.2.2.2.2.2.2.1, x.1.2.2.2.2.2.2.2.2.2.1, x.1.2.2.2.2.2.2.2.2.2.2.1, x.1.2.2.2.2.2.2.2.2.2.2.2.1, x.2.1.1, x.2.1.2.1, x.2.1.2.2.1, x.2.1.2.2.2.1), (x.1.2.2.2.2.1, x.1.2.2.2.2.2.1, x.1.2.2.2.2.2.2.1, x.1.2.2.2.2.2.2.2.2.2.2.2.2.1))) law53_SimulateBusyL1E (CE := ((List Customer) × Int × (List Customer) × (List Customer) × Int × Int × Int × Int × Int × Int)) (E := (Int × Int × Bool)) (fun (c : ((List Customer) × Int × (List Customer) × (List Customer) × Int × Int × Int × Int × Int × Int)) (e : (Int × Int × Bool)) => ((c.1, c.2.1, c.2.2.1, (), e.1, e.2.1, e.2.2, c.2.2.2.1, c.2.2.2.2.1, c.2.2.2.2.2.1, ()), ((c.2.2.2.2.2.2.1, c.2.2.2.2.2.2.2.1, c.2.2.2.2.2.2.2.2.1, c.2.2.2.2.2.2.2.2.2, ()), ()))) (fun (c : ((List Customer) × Int × (List Customer) × (List Customer) × Int × Int × (List Customer) × Int × Int × Int × Int × Int)) => (c.1, c.2.1, c.2.2.1, c.2.2.2.1, c.2.2.2.2.1, c.2.2.2.2.2.1, c.2.2.2.2.2.2.2.2.1, c.2.2.2.2.2.2.2.2.2.1, c.2.2.2.2.2.2.2.2.2.2.1, c.2.2.2.2.2.2.2.2.2.2.2)) (fun {R} c a nx dn rt => law53_SimulateBusyL1K c.1 c.2.1 c.2.2.1 c.2.2.2.1 c.2.2.2.2.1 c.2.2.2.2.2.1 c.2.2.2.2.2.2.1 c.2.2.2.2.2.2.2.1 c.2.2.2.2.2.2.2.2.1 c.2.2.2.2.2.2.2.2.2.1 c.2.2.2.2.2.2.2.2.2.2.1 c.2.2.2.2.2.2.2.2.2.2.2 a.1 a.2.1 a.2.2.1 a.2.2.2 nx dn rt),
  loopSumm (RL.den [.bool]) law53_SimulateBusyL2I (C := ((List Customer) × Int × (List Customer) × (List Customer) × Int × Int × (List Customer) × Int × Int × Int × Int × Int)) (S := (Int × Int × Bool × Int)) (fun (x : (((List Customer) × Int × (List Customer) × Unit × Int × Int × Bool × (List Customer) × Int × Int × (List Customer) × Int × Int × Unit) × ((Int × Int × Int × Int × Unit) × Unit))) => ((x.1.1, x.1.2.1, x.1.2.2.1, x.1.2.2.2.2.2.2.2.1, x.1.2.2.2.2.2.2.2.2.1, x.1.2.2.2.2.2.2.2.2.2.1, x.1.2.2.2.2.2.2.2.2.2.2.1, x.1.2.2.2.2.2.2.2.2.2.2.2.1, x.2.1.1, x.2.1.2.1, x.2.1.2.2.1, x.2.1.2.2.2.1), (x.1.2.2.2.2.1, x.1.2.2.2.2.2.1, x.1.2.2.2.2.2.2.1, x.1.2.2.2.2.2.2.2.2.2.2.2.2.1))) law53_SimulateBusyL2E (CE := ((List Customer) × Int × (List Customer) × (List Customer) × Int × Int × Int × Int × Int × Int)) (E := (Int × Int × Bool)) (fun (c : ((List Customer) × Int × (List Customer) × (List Customer) × Int × Int × Int × Int × Int × Int)) (e : (Int × Int × Bool)) => ((c.1, c.2.1, c.2.2.1, (), e.1, e.2.1, e.2.2, c.2.2.2.1, c.2.2.2.2.1, c.2.2.2.2.2.1, ()), ((c.2.2.2.2.2.2.1, c.2.2.2.2.2.2.2.1, c.2.2.2.2.2.2.2.2.1, c.2.2.2.2.2.2.2.2.2, ()), ()))) (fun (c : ((List Customer) × Int × (List Customer) × (List Customer) × Int × Int × (List Customer) × Int × Int × Int × Int × Int)) => (c.1, c.2.1, c.2.2.1, c.2.2.2.1, c.2.2.2.2.1, c.2.2.2.2.2.1, c.2.2.2.2.2.2.2.2.1, c.2.2.2.2.2.2.2.2.2.1, c.2.2.2.2.2.2.2.2.2.2.1, c.2.2.2.2.2.2.2.2.2.2.2)) (fun {R} c a nx dn rt => law53_SimulateBusyL2K c.1 c.2.1 c.2.2.1 c.2.2.2.1 c.2.2.2.2.1 c.2.2.2.2.2.1 c.2.2.2.2.2.2.1 c.2.2.2.2.2.2.2.1 c.2.2.2.2.2.2.2.2.1 c.2.2.2.2.2.2.2.2.2.1 c.2.2.2.2.2.2.2.2.2.2.1 c.2.2.2.2.2.2.2.2.2.2.2 a.1 a.2.1 a.2.2.1 a.2.2.2 nx dn rt)], resDec 156 tt [.tmp 4] [.bool]⟩

theorem law53_SimulateBusyG : CtxOK Try.prog law53_SimulateBusyX := gam_ok (AllM.all (l := [(11, law53_awakeM), (12, law53_manyM), (13, ref53_ProperM), (14, simulate_ServeM)]) ⟨law53_awake_ok, law53_many_ok, ref53_Proper_ok, simulate_Serve_ok, trivial⟩)

theorem law53_SimulateBusyS2 : SummOK Try.prog law53_SimulateBusyX 2 (.block 2 (.loop (subC (bodyOf Try.f3) [true, true, true, true, true, true, false, true, false, false, true, true, false, false, true, true, true, false, true, false, false]))) :=
  loop_ok (shI := law53_SimulateBusyL2I) (shE := law53_SimulateBusyL2E) (C := ((List Customer) × Int × (List Customer) × (List Customer) × Int × Int × (List Customer) × Int × Int × Int × Int × Int)) (S := (Int × Int × Bool × Int)) (CE := ((List Customer) × Int × (List Customer) × (List Customer) × Int × Int × Int × Int × Int × Int)) (E := (Int × Int × Bool)) law53_SimulateBusyG fits mixed (ann := .z) (AllS.all (l := []) (by kernel_rfl) trivial) (mk := (fun (c : ((List Customer) × Int × (List Customer) × (List Customer) × Int × Int × (List Customer) × Int × Int × Int × Int × Int)) (a : (Int × Int × Bool × Int)) => ((c.1, c.2.1, c.2.2.1, (), a.1, a.2.1, a.2.2.1, c.2.2.2.1, c.2.2.2.2.1, c.2.2.2.2.2.1, c.2.2.2.2.2.2.1, c.2.2.2.2.2.2.2.1, a.2.2.2, ()), ((c.2.2.2.2.2.2.2.2.1, c.2.2.2.2.2.2.2.2.2.1, c.2.2.2.2.2.2.2.2.2.2.1, c.2.2.2.2.2.2.2.2.2.2.2, ()), ())))) (unE := (fun (y : (((List Customer) × Int × (List Customer) × Unit × Int × Int × Bool × (List Customer) × Int × Int × Unit) × ((Int × Int × Int × Int × Unit) × Unit))) => ((y.1.1, y.1.2.1, y.1.2.2.1, y.1.2.2.2.2.2.2.2.1, y.1.2.2.2.2.2.2.2.2.1, y.1.2.2.2.2.2.2.2.2.2.1, y.2.1.1, y.2.1.2.1, y.2.1.2.2.1, y.2.1.2.2.2.1), (y.1.2.2.2.2.1, y.1.2.2.2.2.2.1, y.1.2.2.2.2.2.2.1)))) rfl (fun _ => rfl) (fun _ => rfl) (fun R K D T c a => by kernel_rfl)

theorem law53_SimulateBusyS1 : SummOK Try.prog law53_SimulateBusyX 1 (.block 2 (.loop (subC (bodyOf Try.f3) [true, true, true, true, true, true, false, true, false, false, true, true, false, false, true, true, true, false, true, false, false]))) :=
  loop_ok (shI := law53_SimulateBusyL1I) (shE := law53_SimulateBusyL1E) (C := ((List Customer) × Int × (List Customer) × (List Customer) × Int × Int × (List Customer) × Int × Int × Int × Int × Int)) (S := (Int × Int × Bool × Int)) (CE := ((List Customer) × Int × (List Customer) × (List Customer) × Int × Int × Int × Int × Int × Int)) (E := (Int × Int × Bool)) law53_SimulateBusyG fits mixed (ann := .z) (AllS.all (l := []) (by kernel_rfl) trivial) (mk := (fun (c : ((List Customer) × Int × (List Customer) × (List Customer) × Int × Int × (List Customer) × Int × Int × Int × Int × Int)) (a : (Int × Int × Bool × Int)) => ((c.1, c.2.1, c.2.2.1, (), a.1, a.2.1, a.2.2.1, c.2.2.2.1, c.2.2.2.2.1, c.2.2.2.2.2.1, c.2.2.2.2.2.2.1, c.2.2.2.2.2.2.2.1, a.2.2.2, ()), ((c.2.2.2.2.2.2.2.2.1, c.2.2.2.2.2.2.2.2.2.1, c.2.2.2.2.2.2.2.2.2.2.1, c.2.2.2.2.2.2.2.2.2.2.2, ()), ())))) (unE := (fun (y : (((List Customer) × Int × (List Customer) × Unit × Int × Int × Bool × (List Customer) × Int × Int × Unit) × ((Int × Int × Int × Int × Unit) × Unit))) => ((y.1.1, y.1.2.1, y.1.2.2.1, y.1.2.2.2.2.2.2.2.1, y.1.2.2.2.2.2.2.2.2.1, y.1.2.2.2.2.2.2.2.2.2.1, y.2.1.1, y.2.1.2.1, y.2.1.2.2.1, y.2.1.2.2.2.1), (y.1.2.2.2.2.1, y.1.2.2.2.2.2.1, y.1.2.2.2.2.2.2.1)))) rfl (fun _ => rfl) (fun _ => rfl) (fun R K D T c a => by kernel_rfl)

theorem law53_SimulateBusyS0 : SummOK Try.prog law53_SimulateBusyX 0 (.block 0 (.loop (subC (bodyOf Try.f3) [true, true, true, true, true, true, false, true, false, false]))) :=
  loop_ok (shI := law53_SimulateBusyL0I) (shE := law53_SimulateBusyL0E) (C := ((List Customer) × Int × (List Customer) × (List Customer) × Int)) (S := Int) (CE := Unit) (E := Unit) law53_SimulateBusyG fits mixed (ann := (.two .z (.two .z (.two (.one (.two .z (.two .z (.two .z (.two (.two .z (.s 2)) .z))))) .z)))) (AllS.all (l := [(2, .block 2 (.loop (subC (bodyOf Try.f3) [true, true, true, true, true, true, false, true, false, false, true, true, false, false, true, true, true, false, true, false, false])))]) (by kernel_rfl) ⟨law53_SimulateBusyS2, trivial⟩) (mk := (fun (c : ((List Customer) × Int × (List Customer) × (List Customer) × Int)) (a : Int) => ((c.1, c.2.1, c.2.2.1, c.2.2.2.1, c.2.2.2.2, a, ()), (())))) (unE := (fun (y : ((Unit) × (Unit))) => ((), ()))) rfl (fun _ => rfl) (fun _ => rfl) (fun R K D T c a => by kernel_rfl)

noncomputable def law53_SimulateBusyM : Mdl := mdlOf (.cons (.d (.slice Customer.ty)) (.cons (.d (.int .u8)) .nil)) [.bool] (fun (a : ((List Customer) × Int × Unit)) => law53_SimulateBusy a.1 a.2.1)

theorem law53_SimulateBusy_ok : MdlOK Try.prog 3 law53_SimulateBusyM :=
  fn_ok (c := (bodyOf Try.f3)) Try.func3 (by rfl) (by kernel_rfl) (X := law53_SimulateBusyX) (by kernel_rfl) (rs := [.tmp 4]) (by kernel_rfl) rfl law53_SimulateBusyG fits mixed (ann := (.two .z (.two .z (.two .z (.two .z (.two .z (.two .z (.two (.two .z (.s 0)) .z)))))))) (AllS.all (l := [(0, .block 0 (.loop (subC (bodyOf Try.f3) [true, true, true, true, true, true, false, true, false, false])))]) (by kernel_rfl) ⟨law53_SimulateBusyS0, trivial⟩) (by decide) (fun a => by kernel_rfl)

/-! casebook/casebooklaw53.SimulateShorter -/

noncomputable def law53_SimulateShorterX : Ctx (RL.den [.bool]) := ⟨121, tt, gam [(11, law53_awakeM), (12, law53_manyM), (13, ref53_ProperM), (14, simulate_ServeM)], lam [loopSumm (RL.den [.bool]) law53_SimulateShorterL0I (C := ((List Customer) × (List Int) × Int × (List Customer) × Int)) (S := (Int × (List Customer))) (fun (x : (((List Customer) × (List Int) × Int × Unit × (List Customer) × Int × Int × Unit) × ((List Customer) × Unit))) => ((x.1.1, x.1.2.1, x.1.2.2.1, x.1.2.2.2.2.1, x.1.2.2.2.2.2.1), (x.1.2.2.2.2.2.2.1, x.2.1))) law53_SimulateShorterL0E (CE := ((List Customer) × Int)) (E := (List Customer)) (fun (c : ((List Customer) × Int)) (e : (List Customer)) => ((c.1, c.2, (), ()), (e, ()))) (fun (c : ((List Customer) × (List Int) × Int × (List Customer) × Int)) => (c.1, c.2.2.1)) (fun {R} c a nx dn rt => law53_SimulateShorterL0K c.1 c.2.1 c.2.2.1 c.2.2.2.1 c.2.2.2.2 a.1 a.2 nx dn rt),
  loopSumm (RL.den [.bool]) law53_SimulateShorterL1I (C := ((List Customer) × (List Customer) × Int)) (S := Int) (fun (x : (((List Customer) × (List Customer) × Int × Int × Unit) × (Unit))) => ((x.1.1, x.1.2.1, x.1.2.2.1), x.1.2.2.2.1)) law53_SimulateShorterL1E (CE := Unit) (E := Unit) (fun (c : Unit) (e : Unit) => ((()), (()))) (fun (c : ((List Customer) × (List Customer) × Int)) => ()) (fun {R} c a nx dn rt => law53_SimulateShorterL1K c.1 c.2.1 c.2.2 a nx dn rt)], resDec 121 tt [.tmp 6] [.bool]⟩

theorem law53_SimulateShorterG : CtxOK Try.prog law53_SimulateShorterX := gam_ok (AllM.all (l := [(11, law53_awakeM), (12, law53_manyM), (13, ref53_ProperM), (14, simulate_ServeM)]) ⟨law53_awake_ok, law53_many_ok, ref53_Proper_ok, simulate_Serve_ok, trivial⟩)

theorem law53_SimulateShorterS1 : SummOK Try.prog law53_SimulateShorterX 1 (.block 2 (.loop (subC (bodyOf Try.f4) [true, true, true, true, true, true, true, true, true, false, true, false, false]))) :=
  loop_ok (shI := law53_SimulateShorterL1I) (shE := law53_SimulateShorterL1E) (C := ((List Customer) × (List Customer) × Int)) (S := Int) (CE := Unit) (E := Unit) law53_SimulateShorterG fits mixed (ann := .z) (AllS.all (l := []) (by kernel_rfl) trivial) (mk := (fun (c : ((List Customer) × (List Customer) × Int)) (a : Int) => ((c.1, c.2.1, c.2.2, a, ()), (())))) (unE := (fun (y : ((Unit) × (Unit))) => ((), ()))) rfl (fun _ => rfl) (fun _ => rfl) (fun R K D T c a => by kernel_rfl)

theorem law53_SimulateShorterS0 : SummOK Try.prog law53_SimulateShorterX 0 (.block 0 (.loop (subC (bodyOf Try.f4) [true, true, true, true, false, true, false, false]))) :=
  loop_ok (shI := law53_SimulateShorterL0I) (shE := law53_SimulateShorterL0E) (C := ((List Customer) × (List Int) × Int × (List Customer) × Int)) (S := (Int × (List Customer))) (CE := ((List Customer) × Int)) (E := (List Customer)) law53_SimulateShorterG fits mixed (ann := .z) (AllS.all (l := []) (by kernel_rfl) trivial) (mk := (fun (c : ((List Customer) × (List Int) × Int × (List Customer) × Int)) (a : (Int × (List Customer))) => ((c.1, c.2.1, c.2.2.1, (), c.2.2.2.1, c.2.2.2.2, a.1, ()), (a.2, ())))) (unE := (fun (y : (((List Customer) × Int × Unit × Unit) × ((List Customer) × Unit))) => ((y.1.1, y.1.2.1), y.2.1))) rfl (fun _ => rfl) (fun _ => rfl) (fun R K D T c a => by kernel_rfl)

noncomputable def law53_SimulateShorterM : Mdl := mdlOf (.cons (.d (.slice Customer.ty)) (.cons (.d (.slice (.int .u16))) (.cons (.d (.int .u8)) .nil))) [.bool] (fun (a : ((List Customer) × (List Int) × Int × Unit)) => law53_SimulateShorter a.1 a.2.1 a.2.2.1)

theorem law53_SimulateShorter_ok : MdlOK Try.prog 4 law53_SimulateShorterM :=
  fn_ok (c := (bodyOf Try.f4)) Try.func4 (by rfl) (by kernel_rfl) (X := law53_SimulateShorterX) (by kernel_rfl) (rs := [.tmp 6]) (by kernel_rfl) rfl law53_SimulateShorterG fits mixed (ann := (.two .z (.two .z (.two .z (.two .z (.two (.two .z (.s 0)) (.two .z (.two .z (.two .z (.two .z (.two (.two .z (.s 1)) .z))))))))))) (AllS.all (l := [(0, .block 0 (.loop (subC (bodyOf Try.f4) [true, true, true, true, false, true, false, false]))), (1, .block 2 (.loop (subC (bodyOf Try.f4) [true, true, true, true, true, true, true, true, true, false, true, false, false])))]) (by kernel_rfl) ⟨law53_SimulateShorterS0, law53_SimulateShorterS1, trivial⟩) (by decide) (fun a => by kernel_rfl)

/-! casebook/casebookref53.Number -/

noncomputable def ref53_NumberX : Ctx (RL.den [.bool]) := ⟨9, tt, gam [], lam [], resDec 9 tt [.tmp 2] [.bool]⟩

theorem ref53_NumberG : CtxOK Try.prog ref53_NumberX := gam_ok (AllM.all (l := []) trivial)

noncomputable def ref53_NumberM : Mdl := mdlOf (.cons (.d (.int .i64)) .nil) [.bool] (fun (a : (Int × Unit)) => ref53_Number a.1)

theorem ref53_Number_ok : MdlOK Try.prog 39 ref53_NumberM :=
  fn_ok (c := (bodyOf Try.f39)) Try.func39 (by rfl) (by kernel_rfl) (X := ref53_NumberX) (by kernel_rfl) (rs := [.tmp 2]) (by kernel_rfl) rfl ref53_NumberG fits mixed (ann := .z) (AllS.all (l := []) (by kernel_rfl) trivial) (by decide) (fun a => by kernel_rfl)

/-! casebook/casebookref53.first -/

noncomputable def ref53_firstX : Ctx (RL.den [(.int .i64)]) := ⟨22, tt, gam [], lam [loopSumm (RL.den [(.int .i64)]) ref53_firstL0I (C := (List Int)) (S := (Int × Int)) (fun (x : (((List Int) × Int × Int × Unit) × (Unit))) => (x.1.1, (x.1.2.1, x.1.2.2.1))) ref53_firstL0E (CE := Unit) (E := Int) (fun (c : Unit) (e : Int) => ((e, ()), (()))) (fun (c : (List Int)) => ()) (fun {R} c a nx dn rt => ref53_firstL0K c a.1 a.2 nx dn rt)], resDec 22 tt [.tmp 2] [(.int .i64)]⟩

theorem ref53_firstG : CtxOK Try.prog ref53_firstX := gam_ok (AllM.all (l := []) trivial)

theorem ref53_firstS0 : SummOK Try.prog ref53_firstX 0 (.block 0 (.loop (subC (bodyOf Try.f40) [true, true, false, true, false, false]))) :=
  loop_ok (shI := ref53_firstL0I) (shE := ref53_firstL0E) (C := (List Int)) (S := (Int × Int)) (CE := Unit) (E := Int) ref53_firstG fits mixed (ann := .z) (AllS.all (l := []) (by kernel_rfl) trivial) (mk := (fun (c : (List Int)) (a : (Int × Int)) => ((c, a.1, a.2, ()), (())))) (unE := (fun (y : ((Int × Unit) × (Unit))) => ((), y.1.1))) rfl (fun _ => rfl) (fun _ => rfl) (fun R K D T c a => by kernel_rfl)

noncomputable def ref53_firstM : Mdl := mdlOf (.cons (.d (.slice (.int .i64))) .nil) [(.int .i64)] (fun (a : ((List Int) × Unit)) => ref53_first a.1)

theorem ref53_first_ok : MdlOK Try.prog 40 ref53_firstM :=
  fn_ok (c := (bodyOf Try.f40)) Try.func40 (by rfl) (by kernel_rfl) (X := ref53_firstX) (by kernel_rfl) (rs := [.tmp 2]) (by kernel_rfl) rfl ref53_firstG fits mixed (ann := (.two .z (.two .z (.two (.two .z (.s 0)) .z)))) (AllS.all (l := [(0, .block 0 (.loop (subC (bodyOf Try.f40) [true, true, false, true, false, false])))]) (by kernel_rfl) ⟨ref53_firstS0, trivial⟩) (by decide) (fun a => by kernel_rfl)

/-! casebook/casebookref53.Serve -/

noncomputable def ref53_ServeX : Ctx (RL.den [(.slice Customer.ty), (.int .i64)]) := ⟨62, tt, gam [(13, ref53_ProperM), (39, ref53_NumberM), (40, ref53_firstM)], lam [loopSumm (RL.den [(.slice Customer.ty), (.int .i64)]) ref53_ServeL0I (C := (List Customer)) (S := (Int × (List Int) × (List Customer))) (fun (x : (((List Customer) × Unit × Unit × Int × Unit) × ((List Int) × (List Customer) × Unit))) => (x.1.1, (x.1.2.2.2.1, x.2.1, x.2.2.1))) ref53_ServeL0E (CE := Unit) (E := (List Customer)) (fun (c : Unit) (e : (List Customer)) => (((), ()), (e, ()))) (fun (c : (List Customer)) => ()) (fun {R} c a nx dn rt => ref53_ServeL0K c a.1 a.2.1 a.2.2 nx dn rt)], resDec 62 tt [.tmp 4, .tmp 5] [(.slice Customer.ty), (.int .i64)]⟩

theorem ref53_ServeG : CtxOK Try.prog ref53_ServeX := gam_ok (AllM.all (l := [(13, ref53_ProperM), (39, ref53_NumberM), (40, ref53_firstM)]) ⟨ref53_Proper_ok, ref53_Number_ok, ref53_first_ok, trivial⟩)

theorem ref53_ServeS0 : SummOK Try.prog ref53_ServeX 0 (.block 0 (.loop (subC (bodyOf Try.f15) [true, true, true, true, true, false, true, false, false]))) :=
  loop_ok (shI := ref53_ServeL0I) (shE := ref53_ServeL0E) (C := (List Customer)) (S := (Int × (List Int) × (List Customer))) (CE := Unit) (E := (List Customer)) ref53_ServeG fits mixed (ann := .z) (AllS.all (l := []) (by kernel_rfl) trivial) (mk := (fun (c : (List Customer)) (a : (Int × (List Int) × (List Customer))) => ((c, (), (), a.1, ()), (a.2.1, a.2.2, ())))) (unE := (fun (y : ((Unit × Unit) × ((List Customer) × Unit))) => ((), y.2.1))) rfl (fun _ => rfl) (fun _ => rfl) (fun R K D T c a => by kernel_rfl)

noncomputable def ref53_ServeM : Mdl := mdlOf (.cons (.d (.slice Customer.ty)) (.cons (.d (.int .i64)) .nil)) [(.slice Customer.ty), (.int .i64)] (fun (a : ((List Customer) × Int × Unit)) => ref53_Serve a.1 a.2.1)

theorem ref53_Serve_ok : MdlOK Try.prog 15 ref53_ServeM :=
  fn_ok (c := (bodyOf Try.f15)) Try.func15 (by rfl) (by kernel_rfl) (X := ref53_ServeX) (by kernel_rfl) (rs := [.tmp 4, .tmp 5]) (by kernel_rfl) rfl ref53_ServeG fits mixed (ann := (.two .z (.two .z (.two .z (.two .z (.two .z (.two (.two .z (.s 0)) .z))))))) (AllS.all (l := [(0, .block 0 (.loop (subC (bodyOf Try.f15) [true, true, true, true, true, false, true, false, false])))]) (by kernel_rfl) ⟨ref53_ServeS0, trivial⟩) (by decide) (fun a => by kernel_rfl)

/-! casebook/simulate.Waits$1 -/

noncomputable def simulate_Waits_1X : Ctx (RL.den [.bool]) := ⟨13, tt, gam [], lam [], resDec 13 tt [.tmp 2] [.bool]⟩

theorem simulate_Waits_1G : CtxOK Try.prog simulate_Waits_1X := gam_ok (AllM.all (l := []) trivial)

noncomputable def simulate_Waits_1M : Mdl := mdlOf (.cons (.d Customer.ty) .nil) [.bool] (fun (a : (Customer × Unit)) => simulate_Waits_1 a.1)

theorem simulate_Waits_1_ok : MdlOK Try.prog 43 simulate_Waits_1M :=
  fn_ok (c := (bodyOf Try.f43)) Try.func43 (by rfl) (by kernel_rfl) (X := simulate_Waits_1X) (by kernel_rfl) (rs := [.tmp 2]) (by kernel_rfl) rfl simulate_Waits_1G fits mixed (ann := .z) (AllS.all (l := []) (by kernel_rfl) trivial) (by decide) (fun a => by kernel_rfl)

/-! slices.IndexFunc[[]casebook/api.Customer,casebook/api.Customer] -/

noncomputable def slices_IndexFunc_api_Customer_api_Customer_43X : Ctx (RL.den [(.int .i64)]) := ⟨19, tt, gam [(43, simulate_Waits_1M)], lam [loopSumm (RL.den [(.int .i64)]) slices_IndexFunc_api_Customer_api_Customer_43L0I (C := ((List Customer) × Int)) (S := Int) (fun (x : (((List Customer) × (Unit) × Int × Int × Unit) × (Unit))) => ((x.1.1, x.1.2.2.1), x.1.2.2.2.1)) slices_IndexFunc_api_Customer_api_Customer_43L0E (CE := Unit) (E := Unit) (fun (c : Unit) (e : Unit) => ((()), (()))) (fun (c : ((List Customer) × Int)) => ()) (fun {R} c a nx dn rt => slices_IndexFunc_api_Customer_api_Customer_43L0K c.1 c.2 a nx dn rt)], resDec 19 tt [.tmp 4] [(.int .i64)]⟩

theorem slices_IndexFunc_api_Customer_api_Customer_43G : CtxOK Try.prog slices_IndexFunc_api_Customer_api_Customer_43X := gam_ok (AllM.all (l := [(43, simulate_Waits_1M)]) ⟨simulate_Waits_1_ok, trivial⟩)

theorem slices_IndexFunc_api_Customer_api_Customer_43S0 : SummOK Try.prog slices_IndexFunc_api_Customer_api_Customer_43X 0 (.block 0 (.loop (subC (bodyOf Try.f61) [true, false, true, false, false]))) :=
  loop_ok (shI := slices_IndexFunc_api_Customer_api_Customer_43L0I) (shE := slices_IndexFunc_api_Customer_api_Customer_43L0E) (C := ((List Customer) × Int)) (S := Int) (CE := Unit) (E := Unit) slices_IndexFunc_api_Customer_api_Customer_43G fits mixed (ann := .z) (AllS.all (l := []) (by kernel_rfl) trivial) (mk := (fun (c : ((List Customer) × Int)) (a : Int) => ((c.1, (()), c.2, a, ()), (())))) (unE := (fun (y : ((Unit) × (Unit))) => ((), ()))) rfl (fun _ => rfl) (fun _ => rfl) (fun R K D T c a => by kernel_rfl)

noncomputable def slices_IndexFunc_api_Customer_api_Customer_43M : Mdl := mdlOf (.cons (.d (.slice Customer.ty)) (.cons (.fn 43 .nil) .nil)) [(.int .i64)] (fun (a : ((List Customer) × (Unit) × Unit)) => slices_IndexFunc_api_Customer_api_Customer_43 a.1)

theorem slices_IndexFunc_api_Customer_api_Customer_43_ok : MdlOK Try.prog 61 slices_IndexFunc_api_Customer_api_Customer_43M :=
  fn_ok (c := (bodyOf Try.f61)) Try.func61 (by rfl) (by kernel_rfl) (X := slices_IndexFunc_api_Customer_api_Customer_43X) (by kernel_rfl) (rs := [.tmp 4]) (by kernel_rfl) rfl slices_IndexFunc_api_Customer_api_Customer_43G fits mixed (ann := (.two .z (.two (.two .z (.s 0)) .z))) (AllS.all (l := [(0, .block 0 (.loop (subC (bodyOf Try.f61) [true, false, true, false, false])))]) (by kernel_rfl) ⟨slices_IndexFunc_api_Customer_api_Customer_43S0, trivial⟩) (by decide) (fun a => by kernel_rfl)

/-! slices.ContainsFunc[[]casebook/api.Customer,casebook/api.Customer] -/

noncomputable def slices_ContainsFunc_api_Customer_api_Customer_43X : Ctx (RL.den [.bool]) := ⟨9, tt, gam [(61, slices_IndexFunc_api_Customer_api_Customer_43M)], lam [], resDec 9 tt [.tmp 4] [.bool]⟩

theorem slices_ContainsFunc_api_Customer_api_Customer_43G : CtxOK Try.prog slices_ContainsFunc_api_Customer_api_Customer_43X := gam_ok (AllM.all (l := [(61, slices_IndexFunc_api_Customer_api_Customer_43M)]) ⟨slices_IndexFunc_api_Customer_api_Customer_43_ok, trivial⟩)

noncomputable def slices_ContainsFunc_api_Customer_api_Customer_43M : Mdl := mdlOf (.cons (.d (.slice Customer.ty)) (.cons (.fn 43 .nil) .nil)) [.bool] (fun (a : ((List Customer) × (Unit) × Unit)) => slices_ContainsFunc_api_Customer_api_Customer_43 a.1)

theorem slices_ContainsFunc_api_Customer_api_Customer_43_ok : MdlOK Try.prog 42 slices_ContainsFunc_api_Customer_api_Customer_43M :=
  fn_ok (c := (bodyOf Try.f42)) Try.func42 (by rfl) (by kernel_rfl) (X := slices_ContainsFunc_api_Customer_api_Customer_43X) (by kernel_rfl) (rs := [.tmp 4]) (by kernel_rfl) rfl slices_ContainsFunc_api_Customer_api_Customer_43G fits mixed (ann := .z) (AllS.all (l := []) (by kernel_rfl) trivial) (by decide) (fun a => by kernel_rfl)

/-! casebook/simulate.Waits -/

noncomputable def simulate_WaitsX : Ctx (RL.den [(.slice (.int .i64)), (.int .i64)]) := ⟨30, tt, gam [(41, simulate_properM), (42, slices_ContainsFunc_api_Customer_api_Customer_43M)], lam [loopSumm (RL.den [(.slice (.int .i64)), (.int .i64)]) simulate_WaitsL0I (C := ((List Customer) × Int)) (S := (Int × (List Int))) (fun (x : ((Unit × (List Customer) × Int × Int × Unit) × ((List Int) × Unit))) => ((x.1.2.1, x.1.2.2.1), (x.1.2.2.2.1, x.2.1))) simulate_WaitsL0E (CE := Unit) (E := (List Int)) (fun (c : Unit) (e : (List Int)) => (((), ()), (e, ()))) (fun (c : ((List Customer) × Int)) => ()) (fun {R} c a nx dn rt => simulate_WaitsL0K c.1 c.2 a.1 a.2 nx dn rt)], resDec 30 tt [.tmp 2, .tmp 3] [(.slice (.int .i64)), (.int .i64)]⟩

theorem simulate_WaitsG : CtxOK Try.prog simulate_WaitsX := gam_ok (AllM.all (l := [(41, simulate_properM), (42, slices_ContainsFunc_api_Customer_api_Customer_43M)]) ⟨simulate_proper_ok, slices_ContainsFunc_api_Customer_api_Customer_43_ok, trivial⟩)

theorem simulate_WaitsS0 : SummOK Try.prog simulate_WaitsX 0 (.block 0 (.loop (subC (bodyOf Try.f16) [true, true, true, false, true, false, false]))) :=
  loop_ok (shI := simulate_WaitsL0I) (shE := simulate_WaitsL0E) (C := ((List Customer) × Int)) (S := (Int × (List Int))) (CE := Unit) (E := (List Int)) simulate_WaitsG fits mixed (ann := .z) (AllS.all (l := []) (by kernel_rfl) trivial) (mk := (fun (c : ((List Customer) × Int)) (a : (Int × (List Int))) => (((), c.1, c.2, a.1, ()), (a.2, ())))) (unE := (fun (y : ((Unit × Unit) × ((List Int) × Unit))) => ((), y.2.1))) rfl (fun _ => rfl) (fun _ => rfl) (fun R K D T c a => by kernel_rfl)

noncomputable def simulate_WaitsM : Mdl := mdlOf (.cons (.d (.slice Customer.ty)) .nil) [(.slice (.int .i64)), (.int .i64)] (fun (a : ((List Customer) × Unit)) => simulate_Waits a.1)

theorem simulate_Waits_ok : MdlOK Try.prog 16 simulate_WaitsM :=
  fn_ok (c := (bodyOf Try.f16)) Try.func16 (by rfl) (by kernel_rfl) (X := simulate_WaitsX) (by kernel_rfl) (rs := [.tmp 2, .tmp 3]) (by kernel_rfl) rfl simulate_WaitsG fits mixed (ann := (.two .z (.two .z (.two .z (.two (.two .z (.s 0)) .z))))) (AllS.all (l := [(0, .block 0 (.loop (subC (bodyOf Try.f16) [true, true, true, false, true, false, false])))]) (by kernel_rfl) ⟨simulate_WaitsS0, trivial⟩) (by decide) (fun a => by kernel_rfl)

/-! casebook/casebookref53.Waits -/

noncomputable def ref53_WaitsX : Ctx (RL.den [(.slice (.int .i64)), (.int .i64)]) := ⟨49, tt, gam [(13, ref53_ProperM)], lam [loopSumm (RL.den [(.slice (.int .i64)), (.int .i64)]) ref53_WaitsL0I (C := (List Customer)) (S := (Int × (List Int))) (fun (x : (((List Customer) × Unit × Int × Unit) × ((List Int) × Unit))) => (x.1.1, (x.1.2.2.1, x.2.1))) ref53_WaitsL0E (CE := Unit) (E := (List Int)) (fun (c : Unit) (e : (List Int)) => (((), ()), (e, ()))) (fun (c : (List Customer)) => ()) (fun {R} c a nx dn rt => ref53_WaitsL0K c a.1 a.2 nx dn rt)], resDec 49 tt [.tmp 2, .tmp 3] [(.slice (.int .i64)), (.int .i64)]⟩

theorem ref53_WaitsG : CtxOK Try.prog ref53_WaitsX := gam_ok (AllM.all (l := [(13, ref53_ProperM)]) ⟨ref53_Proper_ok, trivial⟩)

theorem ref53_WaitsS0 : SummOK Try.prog ref53_WaitsX 0 (.block 0 (.loop (subC (bodyOf Try.f17) [true, true, true, false, true, false, false]))) :=
  loop_ok (shI := ref53_WaitsL0I) (shE := ref53_WaitsL0E) (C := (List Customer)) (S := (Int × (List Int))) (CE := Unit) (E := (List Int)) ref53_WaitsG fits mixed (ann := .z) (AllS.all (l := []) (by kernel_rfl) trivial) (mk := (fun (c : (List Customer)) (a : (Int × (List Int))) => ((c, (), a.1, ()), (a.2, ())))) (unE := (fun (y : ((Unit × Unit) × ((List Int) × Unit))) => ((), y.2.1))) rfl (fun _ => rfl) (fun _ => rfl) (fun R K D T c a => by kernel_rfl)

noncomputable def ref53_WaitsM : Mdl := mdlOf (.cons (.d (.slice Customer.ty)) .nil) [(.slice (.int .i64)), (.int .i64)] (fun (a : ((List Customer) × Unit)) => ref53_Waits a.1)

theorem ref53_Waits_ok : MdlOK Try.prog 17 ref53_WaitsM :=
  fn_ok (c := (bodyOf Try.f17)) Try.func17 (by rfl) (by kernel_rfl) (X := ref53_WaitsX) (by kernel_rfl) (rs := [.tmp 2, .tmp 3]) (by kernel_rfl) rfl ref53_WaitsG fits mixed (ann := (.two .z (.two .z (.two .z (.two (.two .z (.s 0)) .z))))) (AllS.all (l := [(0, .block 0 (.loop (subC (bodyOf Try.f17) [true, true, true, false, true, false, false])))]) (by kernel_rfl) ⟨ref53_WaitsS0, trivial⟩) (by decide) (fun a => by kernel_rfl)

/-! casebook/casebookref53.Same -/

noncomputable def ref53_SameX : Ctx (RL.den [.bool]) := ⟨26, tt, gam [], lam [loopSumm (RL.den [.bool]) ref53_SameL0I (C := ((List Customer) × (List Customer))) (S := Int) (fun (x : (((List Customer) × (List Customer) × Int × Unit) × (Unit))) => ((x.1.1, x.1.2.1), x.1.2.2.1)) ref53_SameL0E (CE := Unit) (E := Unit) (fun (c : Unit) (e : Unit) => ((()), (()))) (fun (c : ((List Customer) × (List Customer))) => ()) (fun {R} c a nx dn rt => ref53_SameL0K c.1 c.2 a nx dn rt)], resDec 26 tt [.tmp 4] [.bool]⟩

theorem ref53_SameG : CtxOK Try.prog ref53_SameX := gam_ok (AllM.all (l := []) trivial)

theorem ref53_SameS0 : SummOK Try.prog ref53_SameX 0 (.block 0 (.loop (subC (bodyOf Try.f18) [true, true, false, true, false, false]))) :=
  loop_ok (shI := ref53_SameL0I) (shE := ref53_SameL0E) (C := ((List Customer) × (List Customer))) (S := Int) (CE := Unit) (E := Unit) ref53_SameG fits mixed (ann := .z) (AllS.all (l := []) (by kernel_rfl) trivial) (mk := (fun (c : ((List Customer) × (List Customer))) (a : Int) => ((c.1, c.2, a, ()), (())))) (unE := (fun (y : ((Unit) × (Unit))) => ((), ()))) rfl (fun _ => rfl) (fun _ => rfl) (fun R K D T c a => by kernel_rfl)

noncomputable def ref53_SameM : Mdl := mdlOf (.cons (.d (.slice Customer.ty)) (.cons (.d (.slice Customer.ty)) .nil)) [.bool] (fun (a : ((List Customer) × (List Customer) × Unit)) => ref53_Same a.1 a.2.1)

theorem ref53_Same_ok : MdlOK Try.prog 18 ref53_SameM :=
  fn_ok (c := (bodyOf Try.f18)) Try.func18 (by rfl) (by kernel_rfl) (X := ref53_SameX) (by kernel_rfl) (rs := [.tmp 4]) (by kernel_rfl) rfl ref53_SameG fits mixed (ann := (.two .z (.two .z (.two (.two .z (.s 0)) .z)))) (AllS.all (l := [(0, .block 0 (.loop (subC (bodyOf Try.f18) [true, true, false, true, false, false])))]) (by kernel_rfl) ⟨ref53_SameS0, trivial⟩) (by decide) (fun a => by kernel_rfl)

/-! slices.Equal[[]casebook/api.Customer,casebook/api.Customer] -/

noncomputable def slices_Equal_api_Customer_api_CustomerX : Ctx (RL.den [.bool]) := ⟨26, tt, gam [], lam [loopSumm (RL.den [.bool]) slices_Equal_api_Customer_api_CustomerL0I (C := ((List Customer) × (List Customer) × Int)) (S := Int) (fun (x : (((List Customer) × (List Customer) × Int × Int × Unit) × (Unit))) => ((x.1.1, x.1.2.1, x.1.2.2.1), x.1.2.2.2.1)) slices_Equal_api_Customer_api_CustomerL0E (CE := Unit) (E := Unit) (fun (c : Unit) (e : Unit) => ((()), (()))) (fun (c : ((List Customer) × (List Customer) × Int)) => ()) (fun {R} c a nx dn rt => slices_Equal_api_Customer_api_CustomerL0K c.1 c.2.1 c.2.2 a nx dn rt)], resDec 26 tt [.tmp 4] [.bool]⟩

theorem slices_Equal_api_Customer_api_CustomerG : CtxOK Try.prog slices_Equal_api_Customer_api_CustomerX := gam_ok (AllM.all (l := []) trivial)

theorem slices_Equal_api_Customer_api_CustomerS0 : SummOK Try.prog slices_Equal_api_Customer_api_CustomerX 0 (.block 0 (.loop (subC (bodyOf Try.f24) [true, true, false, true, false, false]))) :=
  loop_ok (shI := slices_Equal_api_Customer_api_CustomerL0I) (shE := slices_Equal_api_Customer_api_CustomerL0E) (C := ((List Customer) × (List Customer) × Int)) (S := Int) (CE := Unit) (E := Unit) slices_Equal_api_Customer_api_CustomerG fits mixed (ann := .z) (AllS.all (l := []) (by kernel_rfl) trivial) (mk := (fun (c : ((List Customer) × (List Customer) × Int)) (a : Int) => ((c.1, c.2.1, c.2.2, a, ()), (())))) (unE := (fun (y : ((Unit) × (Unit))) => ((), ()))) rfl (fun _ => rfl) (fun _ => rfl) (fun R K D T c a => by kernel_rfl)

noncomputable def slices_Equal_api_Customer_api_CustomerM : Mdl := mdlOf (.cons (.d (.slice Customer.ty)) (.cons (.d (.slice Customer.ty)) .nil)) [.bool] (fun (a : ((List Customer) × (List Customer) × Unit)) => slices_Equal_api_Customer_api_Customer a.1 a.2.1)

theorem slices_Equal_api_Customer_api_Customer_ok : MdlOK Try.prog 24 slices_Equal_api_Customer_api_CustomerM :=
  fn_ok (c := (bodyOf Try.f24)) Try.func24 (by rfl) (by kernel_rfl) (X := slices_Equal_api_Customer_api_CustomerX) (by kernel_rfl) (rs := [.tmp 4]) (by kernel_rfl) rfl slices_Equal_api_Customer_api_CustomerG fits mixed (ann := (.two .z (.two .z (.two (.two .z (.s 0)) .z)))) (AllS.all (l := [(0, .block 0 (.loop (subC (bodyOf Try.f24) [true, true, false, true, false, false])))]) (by kernel_rfl) ⟨slices_Equal_api_Customer_api_CustomerS0, trivial⟩) (by decide) (fun a => by kernel_rfl)

/-! casebook/simulate.Valid -/

noncomputable def simulate_ValidX : Ctx (RL.den [.bool]) := ⟨20, tt, gam [(14, simulate_ServeM), (24, slices_Equal_api_Customer_api_CustomerM)], lam [], resDec 20 tt [.tmp 4] [.bool]⟩

theorem simulate_ValidG : CtxOK Try.prog simulate_ValidX := gam_ok (AllM.all (l := [(14, simulate_ServeM), (24, slices_Equal_api_Customer_api_CustomerM)]) ⟨simulate_Serve_ok, slices_Equal_api_Customer_api_Customer_ok, trivial⟩)

noncomputable def simulate_ValidM : Mdl := mdlOf (.cons (.d (.slice Customer.ty)) (.cons (.d (.int .i64)) .nil)) [.bool] (fun (a : ((List Customer) × Int × Unit)) => simulate_Valid a.1 a.2.1)

theorem simulate_Valid_ok : MdlOK Try.prog 19 simulate_ValidM :=
  fn_ok (c := (bodyOf Try.f19)) Try.func19 (by rfl) (by kernel_rfl) (X := simulate_ValidX) (by kernel_rfl) (rs := [.tmp 4]) (by kernel_rfl) rfl simulate_ValidG fits mixed (ann := .z) (AllS.all (l := []) (by kernel_rfl) trivial) (by decide) (fun a => by kernel_rfl)

/-! casebook/casebookref53.Valid -/

noncomputable def ref53_ValidX : Ctx (RL.den [.bool]) := ⟨20, tt, gam [(15, ref53_ServeM), (18, ref53_SameM)], lam [], resDec 20 tt [.tmp 4] [.bool]⟩

theorem ref53_ValidG : CtxOK Try.prog ref53_ValidX := gam_ok (AllM.all (l := [(15, ref53_ServeM), (18, ref53_SameM)]) ⟨ref53_Serve_ok, ref53_Same_ok, trivial⟩)

noncomputable def ref53_ValidM : Mdl := mdlOf (.cons (.d (.slice Customer.ty)) (.cons (.d (.int .i64)) .nil)) [.bool] (fun (a : ((List Customer) × Int × Unit)) => ref53_Valid a.1 a.2.1)

theorem ref53_Valid_ok : MdlOK Try.prog 20 ref53_ValidM :=
  fn_ok (c := (bodyOf Try.f20)) Try.func20 (by rfl) (by kernel_rfl) (X := ref53_ValidX) (by kernel_rfl) (rs := [.tmp 4]) (by kernel_rfl) rfl ref53_ValidG fits mixed (ann := .z) (AllS.all (l := []) (by kernel_rfl) trivial) (by decide) (fun a => by kernel_rfl)

/-! slices.Equal[[]int,int] -/

noncomputable def slices_Equal_int_intX : Ctx (RL.den [.bool]) := ⟨26, tt, gam [], lam [loopSumm (RL.den [.bool]) slices_Equal_int_intL0I (C := ((List Int) × (List Int) × Int)) (S := Int) (fun (x : (((List Int) × (List Int) × Int × Int × Unit) × (Unit))) => ((x.1.1, x.1.2.1, x.1.2.2.1), x.1.2.2.2.1)) slices_Equal_int_intL0E (CE := Unit) (E := Unit) (fun (c : Unit) (e : Unit) => ((()), (()))) (fun (c : ((List Int) × (List Int) × Int)) => ()) (fun {R} c a nx dn rt => slices_Equal_int_intL0K c.1 c.2.1 c.2.2 a nx dn rt)], resDec 26 tt [.tmp 4] [.bool]⟩

theorem slices_Equal_int_intG : CtxOK Try.prog slices_Equal_int_intX := gam_ok (AllM.all (l := []) trivial)

theorem slices_Equal_int_intS0 : SummOK Try.prog slices_Equal_int_intX 0 (.block 0 (.loop (subC (bodyOf Try.f21) [true, true, false, true, false, false]))) :=
  loop_ok (shI := slices_Equal_int_intL0I) (shE := slices_Equal_int_intL0E) (C := ((List Int) × (List Int) × Int)) (S := Int) (CE := Unit) (E := Unit) slices_Equal_int_intG fits mixed (ann := .z) (AllS.all (l := []) (by kernel_rfl) trivial) (mk := (fun (c : ((List Int) × (List Int) × Int)) (a : Int) => ((c.1, c.2.1, c.2.2, a, ()), (())))) (unE := (fun (y : ((Unit) × (Unit))) => ((), ()))) rfl (fun _ => rfl) (fun _ => rfl) (fun R K D T c a => by kernel_rfl)

noncomputable def slices_Equal_int_intM : Mdl := mdlOf (.cons (.d (.slice (.int .i64))) (.cons (.d (.slice (.int .i64))) .nil)) [.bool] (fun (a : ((List Int) × (List Int) × Unit)) => slices_Equal_int_int a.1 a.2.1)

theorem slices_Equal_int_int_ok : MdlOK Try.prog 21 slices_Equal_int_intM :=
  fn_ok (c := (bodyOf Try.f21)) Try.func21 (by rfl) (by kernel_rfl) (X := slices_Equal_int_intX) (by kernel_rfl) (rs := [.tmp 4]) (by kernel_rfl) rfl slices_Equal_int_intG fits mixed (ann := (.two .z (.two .z (.two (.two .z (.s 0)) .z)))) (AllS.all (l := [(0, .block 0 (.loop (subC (bodyOf Try.f21) [true, true, false, true, false, false])))]) (by kernel_rfl) ⟨slices_Equal_int_intS0, trivial⟩) (by decide) (fun a => by kernel_rfl)

/-! casebook/casebooklaw53.SimulateServes -/

noncomputable def law53_SimulateServesX : Ctx (RL.den [.bool]) := ⟨75, tt, gam [(11, law53_awakeM), (12, law53_manyM), (14, simulate_ServeM), (15, ref53_ServeM), (16, simulate_WaitsM), (17, ref53_WaitsM), (18, ref53_SameM), (19, simulate_ValidM), (20, ref53_ValidM), (21, slices_Equal_int_intM)], lam [], resDec 75 tt [.tmp 4] [.bool]⟩

theorem law53_SimulateServesG : CtxOK Try.prog law53_SimulateServesX := gam_ok (AllM.all (l := [(11, law53_awakeM), (12, law53_manyM), (14, simulate_ServeM), (15, ref53_ServeM), (16, simulate_WaitsM), (17, ref53_WaitsM), (18, ref53_SameM), (19, simulate_ValidM), (20, ref53_ValidM), (21, slices_Equal_int_intM)]) ⟨law53_awake_ok, law53_many_ok, simulate_Serve_ok, ref53_Serve_ok, simulate_Waits_ok, ref53_Waits_ok, ref53_Same_ok, simulate_Valid_ok, ref53_Valid_ok, slices_Equal_int_int_ok, trivial⟩)

noncomputable def law53_SimulateServesM : Mdl := mdlOf (.cons (.d (.slice Customer.ty)) (.cons (.d (.int .i64)) .nil)) [.bool] (fun (a : ((List Customer) × Int × Unit)) => law53_SimulateServes a.1 a.2.1)

theorem law53_SimulateServes_ok : MdlOK Try.prog 5 law53_SimulateServesM :=
  fn_ok (c := (bodyOf Try.f5)) Try.func5 (by rfl) (by kernel_rfl) (X := law53_SimulateServesX) (by kernel_rfl) (rs := [.tmp 4]) (by kernel_rfl) rfl law53_SimulateServesG fits mixed (ann := .z) (AllS.all (l := []) (by kernel_rfl) trivial) (by decide) (fun a => by kernel_rfl)

/-! casebook/clock.ValidSpan -/

noncomputable def clock_ValidSpanX : Ctx (RL.den [.bool]) := ⟨18, tt, gam [], lam [], resDec 18 tt [.tmp 2] [.bool]⟩

theorem clock_ValidSpanG : CtxOK Try.prog clock_ValidSpanX := gam_ok (AllM.all (l := []) trivial)

noncomputable def clock_ValidSpanM : Mdl := mdlOf (.cons (.d Span.ty) .nil) [.bool] (fun (a : (Span × Unit)) => clock_ValidSpan a.1)

theorem clock_ValidSpan_ok : MdlOK Try.prog 73 clock_ValidSpanM :=
  fn_ok (c := (bodyOf Try.f73)) Try.func73 (by rfl) (by kernel_rfl) (X := clock_ValidSpanX) (by kernel_rfl) (rs := [.tmp 2]) (by kernel_rfl) rfl clock_ValidSpanG fits mixed (ann := .z) (AllS.all (l := []) (by kernel_rfl) trivial) (by decide) (fun a => by kernel_rfl)

/-! casebook/clock.ofWeek -/

noncomputable def clock_ofWeekX : Ctx (RL.den [.bool]) := ⟨10, tt, gam [(73, clock_ValidSpanM)], lam [], resDec 10 tt [.tmp 2] [.bool]⟩

theorem clock_ofWeekG : CtxOK Try.prog clock_ofWeekX := gam_ok (AllM.all (l := [(73, clock_ValidSpanM)]) ⟨clock_ValidSpan_ok, trivial⟩)

noncomputable def clock_ofWeekM : Mdl := mdlOf (.cons (.d Span.ty) .nil) [.bool] (fun (a : (Span × Unit)) => clock_ofWeek a.1)

theorem clock_ofWeek_ok : MdlOK Try.prog 62 clock_ofWeekM :=
  fn_ok (c := (bodyOf Try.f62)) Try.func62 (by rfl) (by kernel_rfl) (X := clock_ofWeekX) (by kernel_rfl) (rs := [.tmp 2]) (by kernel_rfl) rfl clock_ofWeekG fits mixed (ann := .z) (AllS.all (l := []) (by kernel_rfl) trivial) (by decide) (fun a => by kernel_rfl)

/-! casebook/clock.Valid -/

noncomputable def clock_ValidX : Ctx (RL.den [.bool]) := ⟨37, tt, gam [(62, clock_ofWeekM)], lam [loopSumm (RL.den [.bool]) clock_ValidL0I (C := ((List Span) × Int × (List Span))) (S := Int) (fun (x : ((Unit × (List Span) × Int × Int × Unit) × (((List Span) × Unit) × Unit))) => ((x.1.2.1, x.1.2.2.1, x.2.1.1), x.1.2.2.2.1)) clock_ValidL0E (CE := Unit) (E := Unit) (fun (c : Unit) (e : Unit) => ((()), (()))) (fun (c : ((List Span) × Int × (List Span))) => ()) (fun {R} c a nx dn rt => clock_ValidL0K c.1 c.2.1 c.2.2 a nx dn rt)], resDec 37 tt [.tmp 2] [.bool]⟩

theorem clock_ValidG : CtxOK Try.prog clock_ValidX := gam_ok (AllM.all (l := [(62, clock_ofWeekM)]) ⟨clock_ofWeek_ok, trivial⟩)

theorem clock_ValidS0 : SummOK Try.prog clock_ValidX 0 (.block 0 (.loop (subC (bodyOf Try.f44) [true, true, false, true, false, false]))) :=
  loop_ok (shI := clock_ValidL0I) (shE := clock_ValidL0E) (C := ((List Span) × Int × (List Span))) (S := Int) (CE := Unit) (E := Unit) clock_ValidG fits mixed (ann := .z) (AllS.all (l := []) (by kernel_rfl) trivial) (mk := (fun (c : ((List Span) × Int × (List Span))) (a : Int) => (((), c.1, c.2.1, a, ()), ((c.2.2, ()), ())))) (unE := (fun (y : ((Unit) × (Unit))) => ((), ()))) rfl (fun _ => rfl) (fun _ => rfl) (fun R K D T c a => by kernel_rfl)

noncomputable def clock_ValidM : Mdl := mdlOf (.cons (.d Calendar.ty) .nil) [.bool] (fun (a : (Calendar × Unit)) => clock_Valid a.1)

theorem clock_Valid_ok : MdlOK Try.prog 44 clock_ValidM :=
  fn_ok (c := (bodyOf Try.f44)) Try.func44 (by rfl) (by kernel_rfl) (X := clock_ValidX) (by kernel_rfl) (rs := [.tmp 2]) (by kernel_rfl) rfl clock_ValidG fits mixed (ann := (.two .z (.two .z (.two (.two .z (.s 0)) .z)))) (AllS.all (l := [(0, .block 0 (.loop (subC (bodyOf Try.f44) [true, true, false, true, false, false])))]) (by kernel_rfl) ⟨clock_ValidS0, trivial⟩) (by decide) (fun a => by kernel_rfl)

/-! casebook/clock.instant -/

noncomputable def clock_instantX : Ctx (RL.den [.bool]) := ⟨9, tt, gam [], lam [], resDec 9 tt [.tmp 2] [.bool]⟩

theorem clock_instantG : CtxOK Try.prog clock_instantX := gam_ok (AllM.all (l := []) trivial)

noncomputable def clock_instantM : Mdl := mdlOf (.cons (.d (.int .i64)) .nil) [.bool] (fun (a : (Int × Unit)) => clock_instant a.1)

theorem clock_instant_ok : MdlOK Try.prog 63 clock_instantM :=
  fn_ok (c := (bodyOf Try.f63)) Try.func63 (by rfl) (by kernel_rfl) (X := clock_instantX) (by kernel_rfl) (rs := [.tmp 2]) (by kernel_rfl) rfl clock_instantG fits mixed (ann := .z) (AllS.all (l := []) (by kernel_rfl) trivial) (by decide) (fun a => by kernel_rfl)

/-! casebook/clock.before -/

noncomputable def clock_beforeX : Ctx (RL.den [(.int .i64)]) := ⟨27, tt, gam [], lam [loopSumm (RL.den [(.int .i64)]) clock_beforeL0I (C := (Int × (List Span) × Int)) (S := (Int × Int)) (fun (x : ((Int × Int × (List Span) × Int × Int × Unit) × (Unit))) => ((x.1.1, x.1.2.2.1, x.1.2.2.2.1), (x.1.2.1, x.1.2.2.2.2.1))) clock_beforeL0E (CE := Unit) (E := Int) (fun (c : Unit) (e : Int) => ((e, ()), (()))) (fun (c : (Int × (List Span) × Int)) => ()) (fun {R} c a nx dn rt => clock_beforeL0K c.1 c.2.1 c.2.2 a.1 a.2 nx dn rt)], resDec 27 tt [.tmp 4] [(.int .i64)]⟩

theorem clock_beforeG : CtxOK Try.prog clock_beforeX := gam_ok (AllM.all (l := []) trivial)

theorem clock_beforeS0 : SummOK Try.prog clock_beforeX 0 (.block 0 (.loop (subC (bodyOf Try.f64) [true, true, false, true, false, false]))) :=
  loop_ok (shI := clock_beforeL0I) (shE := clock_beforeL0E) (C := (Int × (List Span) × Int)) (S := (Int × Int)) (CE := Unit) (E := Int) clock_beforeG fits mixed (ann := .z) (AllS.all (l := []) (by kernel_rfl) trivial) (mk := (fun (c : (Int × (List Span) × Int)) (a : (Int × Int)) => ((c.1, a.1, c.2.1, c.2.2, a.2, ()), (())))) (unE := (fun (y : ((Int × Unit) × (Unit))) => ((), y.1.1))) rfl (fun _ => rfl) (fun _ => rfl) (fun R K D T c a => by kernel_rfl)

noncomputable def clock_beforeM : Mdl := mdlOf (.cons (.d Calendar.ty) (.cons (.d (.int .i64)) .nil)) [(.int .i64)] (fun (a : (Calendar × Int × Unit)) => clock_before a.1 a.2.1)

theorem clock_before_ok : MdlOK Try.prog 64 clock_beforeM :=
  fn_ok (c := (bodyOf Try.f64)) Try.func64 (by rfl) (by kernel_rfl) (X := clock_beforeX) (by kernel_rfl) (rs := [.tmp 4]) (by kernel_rfl) rfl clock_beforeG fits mixed (ann := (.two .z (.two .z (.two (.two .z (.s 0)) .z)))) (AllS.all (l := [(0, .block 0 (.loop (subC (bodyOf Try.f64) [true, true, false, true, false, false])))]) (by kernel_rfl) ⟨clock_beforeS0, trivial⟩) (by decide) (fun a => by kernel_rfl)

/-! casebook/clock.until -/

noncomputable def clock_untilX : Ctx (RL.den [(.int .i64)]) := ⟨15, tt, gam [(64, clock_beforeM)], lam [], resDec 15 tt [.tmp 4] [(.int .i64)]⟩

theorem clock_untilG : CtxOK Try.prog clock_untilX := gam_ok (AllM.all (l := [(64, clock_beforeM)]) ⟨clock_before_ok, trivial⟩)

noncomputable def clock_untilM : Mdl := mdlOf (.cons (.d Calendar.ty) (.cons (.d (.int .i64)) .nil)) [(.int .i64)] (fun (a : (Calendar × Int × Unit)) => clock_until a.1 a.2.1)

theorem clock_until_ok : MdlOK Try.prog 65 clock_untilM :=
  fn_ok (c := (bodyOf Try.f65)) Try.func65 (by rfl) (by kernel_rfl) (X := clock_untilX) (by kernel_rfl) (rs := [.tmp 4]) (by kernel_rfl) rfl clock_untilG fits mixed (ann := .z) (AllS.all (l := []) (by kernel_rfl) trivial) (by decide) (fun a => by kernel_rfl)

/-! casebook/clock.After -/

noncomputable def clock_AfterX : Ctx (RL.den [(.int .i64), (.int .i64)]) := ⟨88, tt, gam [(44, clock_ValidM), (63, clock_instantM), (64, clock_beforeM), (65, clock_untilM)], lam [loopSumm (RL.den [(.int .i64), (.int .i64)]) clock_AfterL0I (C := (Int × (List Span) × Int)) (S := (Int × Int)) (fun (x : ((Int × Int × (List Span) × Int × Int × Unit) × (Unit))) => ((x.1.2.1, x.1.2.2.1, x.1.2.2.2.1), (x.1.1, x.1.2.2.2.2.1))) clock_AfterL0E (CE := Unit) (E := Int) (fun (c : Unit) (e : Int) => ((e, ()), (()))) (fun (c : (Int × (List Span) × Int)) => ()) (fun {R} c a nx dn rt => clock_AfterL0K c.1 c.2.1 c.2.2 a.1 a.2 nx dn rt)], resDec 88 tt [.tmp 6, .tmp 7] [(.int .i64), (.int .i64)]⟩

theorem clock_AfterG : CtxOK Try.prog clock_AfterX := gam_ok (AllM.all (l := [(44, clock_ValidM), (63, clock_instantM), (64, clock_beforeM), (65, clock_untilM)]) ⟨clock_Valid_ok, clock_instant_ok, clock_before_ok, clock_until_ok, trivial⟩)

theorem clock_AfterS0 : SummOK Try.prog clock_AfterX 0 (.block 1 (.loop (subC (bodyOf Try.f46) [true, true, true, true, true, true, true, false, true, false, false]))) :=
  loop_ok (shI := clock_AfterL0I) (shE := clock_AfterL0E) (C := (Int × (List Span) × Int)) (S := (Int × Int)) (CE := Unit) (E := Int) clock_AfterG fits mixed (ann := .z) (AllS.all (l := []) (by kernel_rfl) trivial) (mk := (fun (c : (Int × (List Span) × Int)) (a : (Int × Int)) => ((a.1, c.1, c.2.1, c.2.2, a.2, ()), (())))) (unE := (fun (y : ((Int × Unit) × (Unit))) => ((), y.1.1))) rfl (fun _ => rfl) (fun _ => rfl) (fun R K D T c a => by kernel_rfl)

noncomputable def clock_AfterM : Mdl := mdlOf (.cons (.d Calendar.ty) (.cons (.d (.int .i64)) (.cons (.d (.int .i64)) .nil))) [(.int .i64), (.int .i64)] (fun (a : (Calendar × Int × Int × Unit)) => clock_After a.1 a.2.1 a.2.2.1)

theorem clock_After_ok : MdlOK Try.prog 46 clock_AfterM :=
  fn_ok (c := (bodyOf Try.f46)) Try.func46 (by rfl) (by kernel_rfl) (X := clock_AfterX) (by kernel_rfl) (rs := [.tmp 6, .tmp 7]) (by kernel_rfl) rfl clock_AfterG fits mixed (ann := (.two .z (.two .z (.two .z (.two .z (.two .z (.two .z (.two .z (.two (.two .z (.s 0)) .z))))))))) (AllS.all (l := [(0, .block 1 (.loop (subC (bodyOf Try.f46) [true, true, true, true, true, true, true, false, true, false, false])))]) (by kernel_rfl) ⟨clock_AfterS0, trivial⟩) (by decide) (fun a => by kernel_rfl)

/-! casebook/simulate.ServeIn$1 -/

noncomputable def simulate_ServeIn_1X : Ctx (RL.den [(.int .i64), (.int .i64)]) := ⟨13, tt, gam [(46, clock_AfterM)], lam [], resDec 13 tt [.tmp 5, .tmp 6] [(.int .i64), (.int .i64)]⟩

theorem simulate_ServeIn_1G : CtxOK Try.prog simulate_ServeIn_1X := gam_ok (AllM.all (l := [(46, clock_AfterM)]) ⟨clock_After_ok, trivial⟩)

noncomputable def simulate_ServeIn_1M : Mdl := mdlOf (.cons (.d (.int .i64)) (.cons (.d (.int .i64)) (.cons (.rp Calendar.ty) .nil))) [(.int .i64), (.int .i64)] (fun (a : (Int × Int × Calendar × Unit)) => simulate_ServeIn_1 a.1 a.2.1 a.2.2.1)

theorem simulate_ServeIn_1_ok : MdlOK Try.prog 45 simulate_ServeIn_1M :=
  fn_ok (c := (bodyOf Try.f45)) Try.func45 (by rfl) (by kernel_rfl) (X := simulate_ServeIn_1X) (by kernel_rfl) (rs := [.tmp 5, .tmp 6]) (by kernel_rfl) rfl simulate_ServeIn_1G fits mixed (ann := .z) (AllS.all (l := []) (by kernel_rfl) trivial) (by decide) (fun a => by kernel_rfl)

/-! casebook/simulate.serve -/

noncomputable def simulate_serve_45X : Ctx (RL.den [(.slice Customer.ty), (.int .i64)]) := ⟨59, tt, gam [(60, slices_Min_int_intM), (59, slices_Index_int_intM), (45, simulate_ServeIn_1M)], lam [loopSumm (RL.den [(.slice Customer.ty), (.int .i64)]) simulate_serve_45L0I (C := (Calendar × (List Customer) × Int)) (S := (Int × (List Int) × (List Customer))) (fun (x : (((Calendar × Unit) × Unit × Unit × (List Customer) × Int × Int × Unit) × ((List Int) × (List Customer) × Unit))) => ((x.1.1.1, x.1.2.2.2.1, x.1.2.2.2.2.1), (x.1.2.2.2.2.2.1, x.2.1, x.2.2.1))) simulate_serve_45L0E (CE := Unit) (E := (List Customer)) (fun (c : Unit) (e : (List Customer)) => (((), ()), (e, ()))) (fun (c : (Calendar × (List Customer) × Int)) => ()) (fun {R} c a nx dn rt => simulate_serve_45L0K c.1 c.2.1 c.2.2 a.1 a.2.1 a.2.2 nx dn rt)], resDec 59 tt [.tmp 6, .tmp 7] [(.slice Customer.ty), (.int .i64)]⟩

theorem simulate_serve_45G : CtxOK Try.prog simulate_serve_45X := gam_ok (AllM.all (l := [(60, slices_Min_int_intM), (59, slices_Index_int_intM), (45, simulate_ServeIn_1M)]) ⟨slices_Min_int_int_ok, slices_Index_int_int_ok, simulate_ServeIn_1_ok, trivial⟩)

theorem simulate_serve_45S0 : SummOK Try.prog simulate_serve_45X 0 (.block 0 (.loop (subC (bodyOf Try.f37) [true, true, true, false, true, false, false]))) :=
  loop_ok (shI := simulate_serve_45L0I) (shE := simulate_serve_45L0E) (C := (Calendar × (List Customer) × Int)) (S := (Int × (List Int) × (List Customer))) (CE := Unit) (E := (List Customer)) simulate_serve_45G fits mixed (ann := .z) (AllS.all (l := []) (by kernel_rfl) trivial) (mk := (fun (c : (Calendar × (List Customer) × Int)) (a : (Int × (List Int) × (List Customer))) => (((c.1, ()), (), (), c.2.1, c.2.2, a.1, ()), (a.2.1, a.2.2, ())))) (unE := (fun (y : ((Unit × Unit) × ((List Customer) × Unit))) => ((), y.2.1))) rfl (fun _ => rfl) (fun _ => rfl) (fun R K D T c a => by kernel_rfl)

noncomputable def simulate_serve_45M : Mdl := mdlOf (.cons (.d (.slice Customer.ty)) (.cons (.d (.int .i64)) (.cons (.fn 45 (.cons (.rp Calendar.ty) .nil)) .nil))) [(.slice Customer.ty), (.int .i64)] (fun (a : ((List Customer) × Int × (Calendar × Unit) × Unit)) => simulate_serve_45 a.1 a.2.1 a.2.2.1.1)

theorem simulate_serve_45_ok : MdlOK Try.prog 37 simulate_serve_45M :=
  fn_ok (c := (bodyOf Try.f37)) Try.func37 (by rfl) (by kernel_rfl) (X := simulate_serve_45X) (by kernel_rfl) (rs := [.tmp 6, .tmp 7]) (by kernel_rfl) rfl simulate_serve_45G fits mixed (ann := (.two .z (.two .z (.two .z (.two (.two .z (.s 0)) .z))))) (AllS.all (l := [(0, .block 0 (.loop (subC (bodyOf Try.f37) [true, true, true, false, true, false, false])))]) (by kernel_rfl) ⟨simulate_serve_45S0, trivial⟩) (by decide) (fun a => by kernel_rfl)

/-! casebook/simulate.ServeIn -/

noncomputable def simulate_ServeInX : Ctx (RL.den [(.slice Customer.ty), (.int .i64)]) := ⟨29, tt, gam [(41, simulate_properM), (44, clock_ValidM), (36, simulate_givenM), (37, simulate_serve_45M)], lam [], resDec 29 tt [.tmp 6, .tmp 7] [(.slice Customer.ty), (.int .i64)]⟩

theorem simulate_ServeInG : CtxOK Try.prog simulate_ServeInX := gam_ok (AllM.all (l := [(41, simulate_properM), (44, clock_ValidM), (36, simulate_givenM), (37, simulate_serve_45M)]) ⟨simulate_proper_ok, clock_Valid_ok, simulate_given_ok, simulate_serve_45_ok, trivial⟩)

noncomputable def simulate_ServeInM : Mdl := mdlOf (.cons (.d (.slice Customer.ty)) (.cons (.d (.int .i64)) (.cons (.d Calendar.ty) .nil))) [(.slice Customer.ty), (.int .i64)] (fun (a : ((List Customer) × Int × Calendar × Unit)) => simulate_ServeIn a.1 a.2.1 a.2.2.1)

theorem simulate_ServeIn_ok : MdlOK Try.prog 22 simulate_ServeInM :=
  fn_ok (c := (bodyOf Try.f22)) Try.func22 (by rfl) (by kernel_rfl) (X := simulate_ServeInX) (by kernel_rfl) (rs := [.tmp 6, .tmp 7]) (by kernel_rfl) rfl simulate_ServeInG fits mixed (ann := .z) (AllS.all (l := []) (by kernel_rfl) trivial) (by decide) (fun a => by kernel_rfl)

/-! casebook/casebookref03.ValidSpan -/

noncomputable def ref03_ValidSpanX : Ctx (RL.den [.bool]) := ⟨18, tt, gam [], lam [], resDec 18 tt [.tmp 2] [.bool]⟩

theorem ref03_ValidSpanG : CtxOK Try.prog ref03_ValidSpanX := gam_ok (AllM.all (l := []) trivial)

noncomputable def ref03_ValidSpanM : Mdl := mdlOf (.cons (.d Span.ty) .nil) [.bool] (fun (a : (Span × Unit)) => ref03_ValidSpan a.1)

theorem ref03_ValidSpan_ok : MdlOK Try.prog 74 ref03_ValidSpanM :=
  fn_ok (c := (bodyOf Try.f74)) Try.func74 (by rfl) (by kernel_rfl) (X := ref03_ValidSpanX) (by kernel_rfl) (rs := [.tmp 2]) (by kernel_rfl) rfl ref03_ValidSpanG fits mixed (ann := .z) (AllS.all (l := []) (by kernel_rfl) trivial) (by decide) (fun a => by kernel_rfl)

/-! casebook/casebookref03.week -/

noncomputable def ref03_weekX : Ctx (RL.den [.bool]) := ⟨10, tt, gam [(74, ref03_ValidSpanM)], lam [], resDec 10 tt [.tmp 2] [.bool]⟩

theorem ref03_weekG : CtxOK Try.prog ref03_weekX := gam_ok (AllM.all (l := [(74, ref03_ValidSpanM)]) ⟨ref03_ValidSpan_ok, trivial⟩)

noncomputable def ref03_weekM : Mdl := mdlOf (.cons (.d Span.ty) .nil) [.bool] (fun (a : (Span × Unit)) => ref03_week a.1)

theorem ref03_week_ok : MdlOK Try.prog 66 ref03_weekM :=
  fn_ok (c := (bodyOf Try.f66)) Try.func66 (by rfl) (by kernel_rfl) (X := ref03_weekX) (by kernel_rfl) (rs := [.tmp 2]) (by kernel_rfl) rfl ref03_weekG fits mixed (ann := .z) (AllS.all (l := []) (by kernel_rfl) trivial) (by decide) (fun a => by kernel_rfl)

/-! casebook/casebookref03.Valid -/

noncomputable def ref03_ValidX : Ctx (RL.den [.bool]) := ⟨42, tt, gam [(66, ref03_weekM)], lam [loopSumm (RL.den [.bool]) ref03_ValidL0I (C := (List Span)) (S := Int) (fun (x : ((Unit × Int × Unit) × (((List Span) × Unit) × Unit))) => (x.2.1.1, x.1.2.1)) ref03_ValidL0E (CE := Unit) (E := Unit) (fun (c : Unit) (e : Unit) => ((()), (()))) (fun (c : (List Span)) => ()) (fun {R} c a nx dn rt => ref03_ValidL0K c a nx dn rt)], resDec 42 tt [.tmp 2] [.bool]⟩

theorem ref03_ValidG : CtxOK Try.prog ref03_ValidX := gam_ok (AllM.all (l := [(66, ref03_weekM)]) ⟨ref03_week_ok, trivial⟩)

theorem ref03_ValidS0 : SummOK Try.prog ref03_ValidX 0 (.block 0 (.loop (subC (bodyOf Try.f47) [true, true, false, true, false, false]))) :=
  loop_ok (shI := ref03_ValidL0I) (shE := ref03_ValidL0E) (C := (List Span)) (S := Int) (CE := Unit) (E := Unit) ref03_ValidG fits mixed (ann := .z) (AllS.all (l := []) (by kernel_rfl) trivial) (mk := (fun (c : (List Span)) (a : Int) => (((), a, ()), ((c, ()), ())))) (unE := (fun (y : ((Unit) × (Unit))) => ((), ()))) rfl (fun _ => rfl) (fun _ => rfl) (fun R K D T c a => by kernel_rfl)

noncomputable def ref03_ValidM : Mdl := mdlOf (.cons (.d Calendar.ty) .nil) [.bool] (fun (a : (Calendar × Unit)) => ref03_Valid a.1)

theorem ref03_Valid_ok : MdlOK Try.prog 47 ref03_ValidM :=
  fn_ok (c := (bodyOf Try.f47)) Try.func47 (by rfl) (by kernel_rfl) (X := ref03_ValidX) (by kernel_rfl) (rs := [.tmp 2]) (by kernel_rfl) rfl ref03_ValidG fits mixed (ann := (.two .z (.two .z (.two (.two .z (.s 0)) .z)))) (AllS.all (l := [(0, .block 0 (.loop (subC (bodyOf Try.f47) [true, true, false, true, false, false])))]) (by kernel_rfl) ⟨ref03_ValidS0, trivial⟩) (by decide) (fun a => by kernel_rfl)

/-! casebook/casebookref03.instant -/

noncomputable def ref03_instantX : Ctx (RL.den [.bool]) := ⟨9, tt, gam [], lam [], resDec 9 tt [.tmp 2] [.bool]⟩

theorem ref03_instantG : CtxOK Try.prog ref03_instantX := gam_ok (AllM.all (l := []) trivial)

noncomputable def ref03_instantM : Mdl := mdlOf (.cons (.d (.int .i64)) .nil) [.bool] (fun (a : (Int × Unit)) => ref03_instant a.1)

theorem ref03_instant_ok : MdlOK Try.prog 67 ref03_instantM :=
  fn_ok (c := (bodyOf Try.f67)) Try.func67 (by rfl) (by kernel_rfl) (X := ref03_instantX) (by kernel_rfl) (rs := [.tmp 2]) (by kernel_rfl) rfl ref03_instantG fits mixed (ann := .z) (AllS.all (l := []) (by kernel_rfl) trivial) (by decide) (fun a => by kernel_rfl)

/-! casebook/casebookref03.before -/

noncomputable def ref03_beforeX : Ctx (RL.den [(.int .i64)]) := ⟨42, tt, gam [], lam [loopSumm (RL.den [(.int .i64)]) ref03_beforeL0I (C := (Int × (List Span))) (S := (Int × Int)) (fun (x : ((Int × Unit × Int × Int × Unit) × (((List Span) × Unit) × Unit))) => ((x.1.1, x.2.1.1), (x.1.2.2.1, x.1.2.2.2.1))) ref03_beforeL0E (CE := Unit) (E := Int) (fun (c : Unit) (e : Int) => ((e, ()), (()))) (fun (c : (Int × (List Span))) => ()) (fun {R} c a nx dn rt => ref03_beforeL0K c.1 c.2 a.1 a.2 nx dn rt)], resDec 42 tt [.tmp 4] [(.int .i64)]⟩

theorem ref03_beforeG : CtxOK Try.prog ref03_beforeX := gam_ok (AllM.all (l := []) trivial)

theorem ref03_beforeS0 : SummOK Try.prog ref03_beforeX 0 (.block 0 (.loop (subC (bodyOf Try.f68) [true, true, false, true, false, false]))) :=
  loop_ok (shI := ref03_beforeL0I) (shE := ref03_beforeL0E) (C := (Int × (List Span))) (S := (Int × Int)) (CE := Unit) (E := Int) ref03_beforeG fits mixed (ann := .z) (AllS.all (l := []) (by kernel_rfl) trivial) (mk := (fun (c : (Int × (List Span))) (a : (Int × Int)) => ((c.1, (), a.1, a.2, ()), ((c.2, ()), ())))) (unE := (fun (y : ((Int × Unit) × (Unit))) => ((), y.1.1))) rfl (fun _ => rfl) (fun _ => rfl) (fun R K D T c a => by kernel_rfl)

noncomputable def ref03_beforeM : Mdl := mdlOf (.cons (.d Calendar.ty) (.cons (.d (.int .i64)) .nil)) [(.int .i64)] (fun (a : (Calendar × Int × Unit)) => ref03_before a.1 a.2.1)

theorem ref03_before_ok : MdlOK Try.prog 68 ref03_beforeM :=
  fn_ok (c := (bodyOf Try.f68)) Try.func68 (by rfl) (by kernel_rfl) (X := ref03_beforeX) (by kernel_rfl) (rs := [.tmp 4]) (by kernel_rfl) rfl ref03_beforeG fits mixed (ann := (.two .z (.two .z (.two (.two .z (.s 0)) .z)))) (AllS.all (l := [(0, .block 0 (.loop (subC (bodyOf Try.f68) [true, true, false, true, false, false])))]) (by kernel_rfl) ⟨ref03_beforeS0, trivial⟩) (by decide) (fun a => by kernel_rfl)

/-! casebook/casebookref03.Until -/

noncomputable def ref03_UntilX : Ctx (RL.den [(.int .i64)]) := ⟨15, tt, gam [(68, ref03_beforeM)], lam [], resDec 15 tt [.tmp 4] [(.int .i64)]⟩

theorem ref03_UntilG : CtxOK Try.prog ref03_UntilX := gam_ok (AllM.all (l := [(68, ref03_beforeM)]) ⟨ref03_before_ok, trivial⟩)

noncomputable def ref03_UntilM : Mdl := mdlOf (.cons (.d Calendar.ty) (.cons (.d (.int .i64)) .nil)) [(.int .i64)] (fun (a : (Calendar × Int × Unit)) => ref03_Until a.1 a.2.1)

theorem ref03_Until_ok : MdlOK Try.prog 69 ref03_UntilM :=
  fn_ok (c := (bodyOf Try.f69)) Try.func69 (by rfl) (by kernel_rfl) (X := ref03_UntilX) (by kernel_rfl) (rs := [.tmp 4]) (by kernel_rfl) rfl ref03_UntilG fits mixed (ann := .z) (AllS.all (l := []) (by kernel_rfl) trivial) (by decide) (fun a => by kernel_rfl)

/-! casebook/casebookref03.After -/

noncomputable def ref03_AfterX : Ctx (RL.den [(.int .i64), (.int .i64)]) := ⟨87, tt, gam [(47, ref03_ValidM), (67, ref03_instantM), (68, ref03_beforeM), (69, ref03_UntilM)], lam [loopSumm (RL.den [(.int .i64), (.int .i64)]) ref03_AfterL0I (C := (Int × (List Span))) (S := (Int × Int × Int)) (fun (x : ((Unit × Int × Int × Int × Int × Unit) × (((List Span) × Unit) × Unit))) => ((x.1.2.1, x.2.1.1), (x.1.2.2.1, x.1.2.2.2.1, x.1.2.2.2.2.1))) ref03_AfterL0E (CE := Unit) (E := Int) (fun (c : Unit) (e : Int) => ((e, ()), (()))) (fun (c : (Int × (List Span))) => ()) (fun {R} c a nx dn rt => ref03_AfterL0K c.1 c.2 a.1 a.2.1 a.2.2 nx dn rt)], resDec 87 tt [.tmp 6, .tmp 7] [(.int .i64), (.int .i64)]⟩

theorem ref03_AfterG : CtxOK Try.prog ref03_AfterX := gam_ok (AllM.all (l := [(47, ref03_ValidM), (67, ref03_instantM), (68, ref03_beforeM), (69, ref03_UntilM)]) ⟨ref03_Valid_ok, ref03_instant_ok, ref03_before_ok, ref03_Until_ok, trivial⟩)

theorem ref03_AfterS0 : SummOK Try.prog ref03_AfterX 0 (.block 0 (.loop (subC (bodyOf Try.f48) [true, true, true, true, true, true, true, true, true, true, false, true, false, false]))) :=
  loop_ok (shI := ref03_AfterL0I) (shE := ref03_AfterL0E) (C := (Int × (List Span))) (S := (Int × Int × Int)) (CE := Unit) (E := Int) ref03_AfterG fits mixed (ann := .z) (AllS.all (l := []) (by kernel_rfl) trivial) (mk := (fun (c : (Int × (List Span))) (a : (Int × Int × Int)) => (((), c.1, a.1, a.2.1, a.2.2, ()), ((c.2, ()), ())))) (unE := (fun (y : ((Int × Unit) × (Unit))) => ((), y.1.1))) rfl (fun _ => rfl) (fun _ => rfl) (fun R K D T c a => by kernel_rfl)

noncomputable def ref03_AfterM : Mdl := mdlOf (.cons (.d Calendar.ty) (.cons (.d (.int .i64)) (.cons (.d (.int .i64)) .nil))) [(.int .i64), (.int .i64)] (fun (a : (Calendar × Int × Int × Unit)) => ref03_After a.1 a.2.1 a.2.2.1)

theorem ref03_After_ok : MdlOK Try.prog 48 ref03_AfterM :=
  fn_ok (c := (bodyOf Try.f48)) Try.func48 (by rfl) (by kernel_rfl) (X := ref03_AfterX) (by kernel_rfl) (rs := [.tmp 6, .tmp 7]) (by kernel_rfl) rfl ref03_AfterG fits mixed (ann := (.two .z (.two .z (.two .z (.two .z (.two .z (.two .z (.two .z (.two .z (.two .z (.two .z (.two (.two .z (.s 0)) .z)))))))))))) (AllS.all (l := [(0, .block 0 (.loop (subC (bodyOf Try.f48) [true, true, true, true, true, true, true, true, true, true, false, true, false, false])))]) (by kernel_rfl) ⟨ref03_AfterS0, trivial⟩) (by decide) (fun a => by kernel_rfl)

/-! casebook/casebookref53.ServeIn -/

noncomputable def ref53_ServeInX : Ctx (RL.den [(.slice Customer.ty), (.int .i64)]) := ⟨78, tt, gam [(13, ref53_ProperM), (47, ref03_ValidM), (39, ref53_NumberM), (40, ref53_firstM), (48, ref03_AfterM)], lam [loopSumm (RL.den [(.slice Customer.ty), (.int .i64)]) ref53_ServeInL0I (C := ((List Customer) × (List Span))) (S := (Int × (List Int) × (List Customer))) (fun (x : (((List Customer) × Unit × Unit × Unit × Int × Unit) × (((List Span) × Unit) × (List Int) × (List Customer) × Unit))) => ((x.1.1, x.2.1.1), (x.1.2.2.2.2.1, x.2.2.1, x.2.2.2.1))) ref53_ServeInL0E (CE := Unit) (E := (List Customer)) (fun (c : Unit) (e : (List Customer)) => (((), ()), (e, ()))) (fun (c : ((List Customer) × (List Span))) => ()) (fun {R} c a nx dn rt => ref53_ServeInL0K c.1 c.2 a.1 a.2.1 a.2.2 nx dn rt)], resDec 78 tt [.tmp 6, .tmp 7] [(.slice Customer.ty), (.int .i64)]⟩

theorem ref53_ServeInG : CtxOK Try.prog ref53_ServeInX := gam_ok (AllM.all (l := [(13, ref53_ProperM), (47, ref03_ValidM), (39, ref53_NumberM), (40, ref53_firstM), (48, ref03_AfterM)]) ⟨ref53_Proper_ok, ref03_Valid_ok, ref53_Number_ok, ref53_first_ok, ref03_After_ok, trivial⟩)

theorem ref53_ServeInS0 : SummOK Try.prog ref53_ServeInX 0 (.block 0 (.loop (subC (bodyOf Try.f23) [true, true, true, true, true, false, true, false, false]))) :=
  loop_ok (shI := ref53_ServeInL0I) (shE := ref53_ServeInL0E) (C := ((List Customer) × (List Span))) (S := (Int × (List Int) × (List Customer))) (CE := Unit) (E := (List Customer)) ref53_ServeInG fits mixed (ann := .z) (AllS.all (l := []) (by kernel_rfl) trivial) (mk := (fun (c : ((List Customer) × (List Span))) (a : (Int × (List Int) × (List Customer))) => ((c.1, (), (), (), a.1, ()), ((c.2, ()), a.2.1, a.2.2, ())))) (unE := (fun (y : ((Unit × Unit) × ((List Customer) × Unit))) => ((), y.2.1))) rfl (fun _ => rfl) (fun _ => rfl) (fun R K D T c a => by kernel_rfl)

noncomputable def ref53_ServeInM : Mdl := mdlOf (.cons (.d (.slice Customer.ty)) (.cons (.d (.int .i64)) (.cons (.d Calendar.ty) .nil))) [(.slice Customer.ty), (.int .i64)] (fun (a : ((List Customer) × Int × Calendar × Unit)) => ref53_ServeIn a.1 a.2.1 a.2.2.1)

theorem ref53_ServeIn_ok : MdlOK Try.prog 23 ref53_ServeInM :=
  fn_ok (c := (bodyOf Try.f23)) Try.func23 (by rfl) (by kernel_rfl) (X := ref53_ServeInX) (by kernel_rfl) (rs := [.tmp 6, .tmp 7]) (by kernel_rfl) rfl ref53_ServeInG fits mixed (ann := (.two .z (.two .z (.two .z (.two .z (.two .z (.two (.two .z (.s 0)) .z))))))) (AllS.all (l := [(0, .block 0 (.loop (subC (bodyOf Try.f23) [true, true, true, true, true, false, true, false, false])))]) (by kernel_rfl) ⟨ref53_ServeInS0, trivial⟩) (by decide) (fun a => by kernel_rfl)

/-! casebook/casebooklaw53.SimulateCalendars -/

noncomputable def law53_SimulateCalendarsX : Ctx (RL.den [.bool]) := ⟨54, tt, gam [(11, law53_awakeM), (22, simulate_ServeInM), (23, ref53_ServeInM), (18, ref53_SameM)], lam [], resDec 54 tt [.tmp 6] [.bool]⟩

theorem law53_SimulateCalendarsG : CtxOK Try.prog law53_SimulateCalendarsX := gam_ok (AllM.all (l := [(11, law53_awakeM), (22, simulate_ServeInM), (23, ref53_ServeInM), (18, ref53_SameM)]) ⟨law53_awake_ok, simulate_ServeIn_ok, ref53_ServeIn_ok, ref53_Same_ok, trivial⟩)

noncomputable def law53_SimulateCalendarsM : Mdl := mdlOf (.cons (.d (.slice Customer.ty)) (.cons (.d (.int .i64)) (.cons (.d Calendar.ty) .nil))) [.bool] (fun (a : ((List Customer) × Int × Calendar × Unit)) => law53_SimulateCalendars a.1 a.2.1 a.2.2.1)

theorem law53_SimulateCalendars_ok : MdlOK Try.prog 6 law53_SimulateCalendarsM :=
  fn_ok (c := (bodyOf Try.f6)) Try.func6 (by rfl) (by kernel_rfl) (X := law53_SimulateCalendarsX) (by kernel_rfl) (rs := [.tmp 6]) (by kernel_rfl) rfl law53_SimulateCalendarsG fits mixed (ann := .z) (AllS.all (l := []) (by kernel_rfl) trivial) (by decide) (fun a => by kernel_rfl)

/-! casebook/casebooklaw53.SimulateAlways -/

noncomputable def law53_SimulateAlwaysX : Ctx (RL.den [.bool]) := ⟨117, tt, gam [(11, law53_awakeM), (13, ref53_ProperM), (14, simulate_ServeM), (22, simulate_ServeInM), (24, slices_Equal_api_Customer_api_CustomerM)], lam [loopSumm (RL.den [.bool]) law53_SimulateAlwaysL0I (C := ((List Customer) × (List Customer) × Int)) (S := Int) (fun (x : (((List Customer) × (List Customer) × Int × Int × Unit) × (Unit))) => ((x.1.1, x.1.2.1, x.1.2.2.1), x.1.2.2.2.1)) law53_SimulateAlwaysL0E (CE := Unit) (E := Unit) (fun (c : Unit) (e : Unit) => ((()), (()))) (fun (c : ((List Customer) × (List Customer) × Int)) => ()) (fun {R} c a nx dn rt => law53_SimulateAlwaysL0K c.1 c.2.1 c.2.2 a nx dn rt),
  loopSumm (RL.den [.bool]) law53_SimulateAlwaysL1I (C := ((List Customer) × (List Customer) × Int)) (S := Int) (fun (x : (((List Customer) × (List Customer) × Int × Int × Unit) × (Unit))) => ((x.1.1, x.1.2.1, x.1.2.2.1), x.1.2.2.2.1)) law53_SimulateAlwaysL1E (CE := Unit) (E := Unit) (fun (c : Unit) (e : Unit) => ((()), (()))) (fun (c : ((List Customer) × (List Customer) × Int)) => ()) (fun {R} c a nx dn rt => law53_SimulateAlwaysL1K c.1 c.2.1 c.2.2 a nx dn rt),
  loopSumm (RL.den [.bool]) law53_SimulateAlwaysL2I (C := ((List Customer) × (List Customer) × Int)) (S := Int) (fun (x : (((List Customer) × (List Customer) × Int × Int × Unit) × (Unit))) => ((x.1.1, x.1.2.1, x.1.2.2.1), x.1.2.2.2.1)) law53_SimulateAlwaysL2E (CE := Unit) (E := Unit) (fun (c : Unit) (e : Unit) => ((()), (()))) (fun (c : ((List Customer) × (List Customer) × Int)) => ()) (fun {R} c a nx dn rt => law53_SimulateAlwaysL2K c.1 c.2.1 c.2.2 a nx dn rt),
  loopSumm (RL.den [.bool]) law53_SimulateAlwaysL3I (C := ((List Customer) × (List Customer) × Int)) (S := Int) (fun (x : (((List Customer) × (List Customer) × Int × Int × Unit) × (Unit))) => ((x.1.1, x.1.2.1, x.1.2.2.1), x.1.2.2.2.1)) law53_SimulateAlwaysL3E (CE := Unit) (E := Unit) (fun (c : Unit) (e : Unit) => ((()), (()))) (fun (c : ((List Customer) × (List Customer) × Int)) => ()) (fun {R} c a nx dn rt => law53_SimulateAlwaysL3K c.1 c.2.1 c.2.2 a nx dn rt)], resDec 117 tt [.tmp 6] [.bool]⟩

theorem law53_SimulateAlwaysG : CtxOK Try.prog law53_SimulateAlwaysX := gam_ok (AllM.all (l := [(11, law53_awakeM), (13, ref53_ProperM), (14, simulate_ServeM), (22, simulate_ServeInM), (24, slices_Equal_api_Customer_api_CustomerM)]) ⟨law53_awake_ok, ref53_Proper_ok, simulate_Serve_ok, simulate_ServeIn_ok, slices_Equal_api_Customer_api_Customer_ok, trivial⟩)

theorem law53_SimulateAlwaysS3 : SummOK Try.prog law53_SimulateAlwaysX 3 (.block 0 (.loop (subC (bodyOf Try.f7) [true, true, true, true, true, true, true, true, true, true, false, true, false, false]))) :=
  loop_ok (shI := law53_SimulateAlwaysL3I) (shE := law53_SimulateAlwaysL3E) (C := ((List Customer) × (List Customer) × Int)) (S := Int) (CE := Unit) (E := Unit) law53_SimulateAlwaysG fits mixed (ann := .z) (AllS.all (l := []) (by kernel_rfl) trivial) (mk := (fun (c : ((List Customer) × (List Customer) × Int)) (a : Int) => ((c.1, c.2.1, c.2.2, a, ()), (())))) (unE := (fun (y : ((Unit) × (Unit))) => ((), ()))) rfl (fun _ => rfl) (fun _ => rfl) (fun R K D T c a => by kernel_rfl)

theorem law53_SimulateAlwaysS2 : SummOK Try.prog law53_SimulateAlwaysX 2 (.block 0 (.loop (subC (bodyOf Try.f7) [true, true, true, true, true, true, true, true, true, true, false, true, false, false]))) :=
  loop_ok (shI := law53_SimulateAlwaysL2I) (shE := law53_SimulateAlwaysL2E) (C := ((List Customer) × (List Customer) × Int)) (S := Int) (CE := Unit) (E := Unit) law53_SimulateAlwaysG fits mixed (ann := .z) (AllS.all (l := []) (by kernel_rfl) trivial) (mk := (fun (c : ((List Customer) × (List Customer) × Int)) (a : Int) => ((c.1, c.2.1, c.2.2, a, ()), (())))) (unE := (fun (y : ((Unit) × (Unit))) => ((), ()))) rfl (fun _ => rfl) (fun _ => rfl) (fun R K D T c a => by kernel_rfl)

theorem law53_SimulateAlwaysS1 : SummOK Try.prog law53_SimulateAlwaysX 1 (.block 0 (.loop (subC (bodyOf Try.f7) [true, true, true, true, true, true, true, true, true, true, false, true, false, false]))) :=
  loop_ok (shI := law53_SimulateAlwaysL1I) (shE := law53_SimulateAlwaysL1E) (C := ((List Customer) × (List Customer) × Int)) (S := Int) (CE := Unit) (E := Unit) law53_SimulateAlwaysG fits mixed (ann := .z) (AllS.all (l := []) (by kernel_rfl) trivial) (mk := (fun (c : ((List Customer) × (List Customer) × Int)) (a : Int) => ((c.1, c.2.1, c.2.2, a, ()), (())))) (unE := (fun (y : ((Unit) × (Unit))) => ((), ()))) rfl (fun _ => rfl) (fun _ => rfl) (fun R K D T c a => by kernel_rfl)

theorem law53_SimulateAlwaysS0 : SummOK Try.prog law53_SimulateAlwaysX 0 (.block 0 (.loop (subC (bodyOf Try.f7) [true, true, true, true, true, true, true, true, true, true, false, true, false, false]))) :=
  loop_ok (shI := law53_SimulateAlwaysL0I) (shE := law53_SimulateAlwaysL0E) (C := ((List Customer) × (List Customer) × Int)) (S := Int) (CE := Unit) (E := Unit) law53_SimulateAlwaysG fits mixed (ann := .z) (AllS.all (l := []) (by kernel_rfl) trivial) (mk := (fun (c : ((List Customer) × (List Customer) × Int)) (a : Int) => ((c.1, c.2.1, c.2.2, a, ()), (())))) (unE := (fun (y : ((Unit) × (Unit))) => ((), ()))) rfl (fun _ => rfl) (fun _ => rfl) (fun R K D T c a => by kernel_rfl)

noncomputable def law53_SimulateAlwaysM : Mdl := mdlOf (.cons (.d (.slice Customer.ty)) (.cons (.d (.int .u8)) (.cons (.d Calendar.ty) .nil))) [.bool] (fun (a : ((List Customer) × Int × Calendar × Unit)) => law53_SimulateAlways a.1 a.2.1 a.2.2.1)

theorem law53_SimulateAlways_ok : MdlOK Try.prog 7 law53_SimulateAlwaysM :=
  fn_ok (c := (bodyOf Try.f7)) Try.func7 (by rfl) (by kernel_rfl) (X := law53_SimulateAlwaysX) (by kernel_rfl) (rs := [.tmp 6]) (by kernel_rfl) rfl law53_SimulateAlwaysG fits mixed (ann := (.two .z (.two .z (.two .z (.two .z (.two .z (.two .z (.two .z (.two .z (.two .z (.two .z (.two (.two .z (.s 3)) .z)))))))))))) (AllS.all (l := [(3, .block 0 (.loop (subC (bodyOf Try.f7) [true, true, true, true, true, true, true, true, true, true, false, true, false, false])))]) (by kernel_rfl) ⟨law53_SimulateAlwaysS3, trivial⟩) (by decide) (fun a => by kernel_rfl)

/-! casebook/simulate.entry -/

noncomputable def simulate_entryX : Ctx (RL.den [.bool]) := ⟨9, tt, gam [], lam [], resDec 9 tt [.tmp 2] [.bool]⟩

theorem simulate_entryG : CtxOK Try.prog simulate_entryX := gam_ok (AllM.all (l := []) trivial)

noncomputable def simulate_entryM : Mdl := mdlOf (.cons (.d (.int .i64)) .nil) [.bool] (fun (a : (Int × Unit)) => simulate_entry a.1)

theorem simulate_entry_ok : MdlOK Try.prog 49 simulate_entryM :=
  fn_ok (c := (bodyOf Try.f49)) Try.func49 (by rfl) (by kernel_rfl) (X := simulate_entryX) (by kernel_rfl) (rs := [.tmp 2]) (by kernel_rfl) rfl simulate_entryG fits mixed (ann := .z) (AllS.all (l := []) (by kernel_rfl) trivial) (by decide) (fun a => by kernel_rfl)

/-! casebook/simulate.random -/

noncomputable def simulate_randomX : Ctx (RL.den [(.int .i64)]) := ⟨22, tt, gam [], lam [loopSumm (RL.den [(.int .i64)]) simulate_randomL0I (C := Unit) (S := (Int × Int)) (fun (x : ((Int × Int × Unit) × (Unit))) => ((), (x.1.1, x.1.2.1))) simulate_randomL0E (CE := Unit) (E := Int) (fun (c : Unit) (e : Int) => ((e, ()), (()))) (fun (c : Unit) => ()) (fun {R} c a nx dn rt => simulate_randomL0K  a.1 a.2 nx dn rt)], resDec 22 tt [.tmp 4] [(.int .i64)]⟩

theorem simulate_randomG : CtxOK Try.prog simulate_randomX := gam_ok (AllM.all (l := []) trivial)

theorem simulate_randomS0 : SummOK Try.prog simulate_randomX 0 (.block 0 (.loop (subC (bodyOf Try.f50) [true, true, false, true, false, false]))) :=
  loop_ok (shI := simulate_randomL0I) (shE := simulate_randomL0E) (C := Unit) (S := (Int × Int)) (CE := Unit) (E := Int) simulate_randomG fits mixed (ann := .z) (AllS.all (l := []) (by kernel_rfl) trivial) (mk := (fun (c : Unit) (a : (Int × Int)) => ((a.1, a.2, ()), (())))) (unE := (fun (y : ((Int × Unit) × (Unit))) => ((), y.1.1))) rfl (fun _ => rfl) (fun _ => rfl) (fun R K D T c a => by kernel_rfl)

noncomputable def simulate_randomM : Mdl := mdlOf (.cons (.d (.int .i64)) (.cons (.d (.int .i64)) .nil)) [(.int .i64)] (fun (a : (Int × Int × Unit)) => simulate_random a.1 a.2.1)

theorem simulate_random_ok : MdlOK Try.prog 50 simulate_randomM :=
  fn_ok (c := (bodyOf Try.f50)) Try.func50 (by rfl) (by kernel_rfl) (X := simulate_randomX) (by kernel_rfl) (rs := [.tmp 4]) (by kernel_rfl) rfl simulate_randomG fits mixed (ann := (.two .z (.two .z (.two (.two .z (.s 0)) .z)))) (AllS.all (l := [(0, .block 0 (.loop (subC (bodyOf Try.f50) [true, true, false, true, false, false])))]) (by kernel_rfl) ⟨simulate_randomS0, trivial⟩) (by decide) (fun a => by kernel_rfl)

/-! casebook/simulate.Random -/

noncomputable def simulate_RandomX : Ctx (RL.den [(.int .i64), (.int .i64)]) := ⟨17, tt, gam [(49, simulate_entryM), (50, simulate_randomM)], lam [], resDec 17 tt [.tmp 4, .tmp 5] [(.int .i64), (.int .i64)]⟩

theorem simulate_RandomG : CtxOK Try.prog simulate_RandomX := gam_ok (AllM.all (l := [(49, simulate_entryM), (50, simulate_randomM)]) ⟨simulate_entry_ok, simulate_random_ok, trivial⟩)

noncomputable def simulate_RandomM : Mdl := mdlOf (.cons (.d (.int .i64)) (.cons (.d (.int .i64)) .nil)) [(.int .i64), (.int .i64)] (fun (a : (Int × Int × Unit)) => simulate_Random a.1 a.2.1)

theorem simulate_Random_ok : MdlOK Try.prog 25 simulate_RandomM :=
  fn_ok (c := (bodyOf Try.f25)) Try.func25 (by rfl) (by kernel_rfl) (X := simulate_RandomX) (by kernel_rfl) (rs := [.tmp 4, .tmp 5]) (by kernel_rfl) rfl simulate_RandomG fits mixed (ann := .z) (AllS.all (l := []) (by kernel_rfl) trivial) (by decide) (fun a => by kernel_rfl)

/-! casebook/casebookref53.seed -/

noncomputable def ref53_seedX : Ctx (RL.den [.bool]) := ⟨9, tt, gam [], lam [], resDec 9 tt [.tmp 2] [.bool]⟩

theorem ref53_seedG : CtxOK Try.prog ref53_seedX := gam_ok (AllM.all (l := []) trivial)

noncomputable def ref53_seedM : Mdl := mdlOf (.cons (.d (.int .i64)) .nil) [.bool] (fun (a : (Int × Unit)) => ref53_seed a.1)

theorem ref53_seed_ok : MdlOK Try.prog 51 ref53_seedM :=
  fn_ok (c := (bodyOf Try.f51)) Try.func51 (by rfl) (by kernel_rfl) (X := ref53_seedX) (by kernel_rfl) (rs := [.tmp 2]) (by kernel_rfl) rfl ref53_seedG fits mixed (ann := .z) (AllS.all (l := []) (by kernel_rfl) trivial) (by decide) (fun a => by kernel_rfl)

/-! casebook/casebookref53.Random -/

noncomputable def ref53_RandomX : Ctx (RL.den [(.int .i64)]) := ⟨27, tt, gam [], lam [loopSumm (RL.den [(.int .i64)]) ref53_RandomL0I (C := Int) (S := (Int × Int)) (fun (x : ((Int × Int × Int × Unit) × (Unit))) => (x.1.1, (x.1.2.1, x.1.2.2.1))) ref53_RandomL0E (CE := Unit) (E := Int) (fun (c : Unit) (e : Int) => ((e, ()), (()))) (fun (c : Int) => ()) (fun {R} c a nx dn rt => ref53_RandomL0K c a.1 a.2 nx dn rt)], resDec 27 tt [.tmp 4] [(.int .i64)]⟩

theorem ref53_RandomG : CtxOK Try.prog ref53_RandomX := gam_ok (AllM.all (l := []) trivial)

theorem ref53_RandomS0 : SummOK Try.prog ref53_RandomX 0 (.block 0 (.loop (subC (bodyOf Try.f52) [true, true, true, false, true, false, false]))) :=
  loop_ok (shI := ref53_RandomL0I) (shE := ref53_RandomL0E) (C := Int) (S := (Int × Int)) (CE := Unit) (E := Int) ref53_RandomG fits mixed (ann := .z) (AllS.all (l := []) (by kernel_rfl) trivial) (mk := (fun (c : Int) (a : (Int × Int)) => ((c, a.1, a.2, ()), (())))) (unE := (fun (y : ((Int × Unit) × (Unit))) => ((), y.1.1))) rfl (fun _ => rfl) (fun _ => rfl) (fun R K D T c a => by kernel_rfl)

noncomputable def ref53_RandomM : Mdl := mdlOf (.cons (.d (.int .i64)) (.cons (.d (.int .i64)) .nil)) [(.int .i64)] (fun (a : (Int × Int × Unit)) => ref53_Random a.1 a.2.1)

theorem ref53_Random_ok : MdlOK Try.prog 52 ref53_RandomM :=
  fn_ok (c := (bodyOf Try.f52)) Try.func52 (by rfl) (by kernel_rfl) (X := ref53_RandomX) (by kernel_rfl) (rs := [.tmp 4]) (by kernel_rfl) rfl ref53_RandomG fits mixed (ann := (.two .z (.two .z (.two .z (.two (.two .z (.s 0)) .z))))) (AllS.all (l := [(0, .block 0 (.loop (subC (bodyOf Try.f52) [true, true, true, false, true, false, false])))]) (by kernel_rfl) ⟨ref53_RandomS0, trivial⟩) (by decide) (fun a => by kernel_rfl)

/-! casebook/casebookref53.SafeRandom -/

noncomputable def ref53_SafeRandomX : Ctx (RL.den [(.int .i64), (.int .i64)]) := ⟨17, tt, gam [(51, ref53_seedM), (52, ref53_RandomM)], lam [], resDec 17 tt [.tmp 4, .tmp 5] [(.int .i64), (.int .i64)]⟩

theorem ref53_SafeRandomG : CtxOK Try.prog ref53_SafeRandomX := gam_ok (AllM.all (l := [(51, ref53_seedM), (52, ref53_RandomM)]) ⟨ref53_seed_ok, ref53_Random_ok, trivial⟩)

noncomputable def ref53_SafeRandomM : Mdl := mdlOf (.cons (.d (.int .i64)) (.cons (.d (.int .i64)) .nil)) [(.int .i64), (.int .i64)] (fun (a : (Int × Int × Unit)) => ref53_SafeRandom a.1 a.2.1)

theorem ref53_SafeRandom_ok : MdlOK Try.prog 26 ref53_SafeRandomM :=
  fn_ok (c := (bodyOf Try.f26)) Try.func26 (by rfl) (by kernel_rfl) (X := ref53_SafeRandomX) (by kernel_rfl) (rs := [.tmp 4, .tmp 5]) (by kernel_rfl) rfl ref53_SafeRandomG fits mixed (ann := .z) (AllS.all (l := []) (by kernel_rfl) trivial) (by decide) (fun a => by kernel_rfl)

/-! casebook/casebooklaw53.wide -/

noncomputable def law53_wideX : Ctx (RL.den [.bool]) := ⟨13, tt, gam [], lam [], resDec 13 tt [.tmp 2] [.bool]⟩

theorem law53_wideG : CtxOK Try.prog law53_wideX := gam_ok (AllM.all (l := []) trivial)

noncomputable def law53_wideM : Mdl := mdlOf (.cons (.d Histogram.ty) .nil) [.bool] (fun (a : (Histogram × Unit)) => law53_wide a.1)

theorem law53_wide_ok : MdlOK Try.prog 27 law53_wideM :=
  fn_ok (c := (bodyOf Try.f27)) Try.func27 (by rfl) (by kernel_rfl) (X := law53_wideX) (by kernel_rfl) (rs := [.tmp 2]) (by kernel_rfl) rfl law53_wideG fits mixed (ann := .z) (AllS.all (l := []) (by kernel_rfl) trivial) (by decide) (fun a => by kernel_rfl)

/-! casebook/timing.proper -/

noncomputable def timing_properX : Ctx (RL.den [.bool]) := ⟨40, tt, gam [], lam [loopSumm (RL.den [.bool]) timing_properL0I (C := ((List Int) × (List Int) × Int)) (S := Int) (fun (x : (((List Int) × (List Int) × Int × Int × Unit) × (Unit))) => ((x.1.1, x.1.2.1, x.1.2.2.1), x.1.2.2.2.1)) timing_properL0E (CE := Unit) (E := Unit) (fun (c : Unit) (e : Unit) => ((()), (()))) (fun (c : ((List Int) × (List Int) × Int)) => ()) (fun {R} c a nx dn rt => timing_properL0K c.1 c.2.1 c.2.2 a nx dn rt)], resDec 40 tt [.tmp 2] [.bool]⟩

theorem timing_properG : CtxOK Try.prog timing_properX := gam_ok (AllM.all (l := []) trivial)

theorem timing_properS0 : SummOK Try.prog timing_properX 0 (.block 0 (.loop (subC (bodyOf Try.f75) [true, true, false, true, false, false]))) :=
  loop_ok (shI := timing_properL0I) (shE := timing_properL0E) (C := ((List Int) × (List Int) × Int)) (S := Int) (CE := Unit) (E := Unit) timing_properG fits mixed (ann := .z) (AllS.all (l := []) (by kernel_rfl) trivial) (mk := (fun (c : ((List Int) × (List Int) × Int)) (a : Int) => ((c.1, c.2.1, c.2.2, a, ()), (())))) (unE := (fun (y : ((Unit) × (Unit))) => ((), ()))) rfl (fun _ => rfl) (fun _ => rfl) (fun R K D T c a => by kernel_rfl)

noncomputable def timing_properM : Mdl := mdlOf (.cons (.d (.slice (.int .i64))) .nil) [.bool] (fun (a : ((List Int) × Unit)) => timing_proper a.1)

theorem timing_proper_ok : MdlOK Try.prog 75 timing_properM :=
  fn_ok (c := (bodyOf Try.f75)) Try.func75 (by rfl) (by kernel_rfl) (X := timing_properX) (by kernel_rfl) (rs := [.tmp 2]) (by kernel_rfl) rfl timing_properG fits mixed (ann := (.two .z (.two .z (.two (.two .z (.s 0)) .z)))) (AllS.all (l := [(0, .block 0 (.loop (subC (bodyOf Try.f75) [true, true, false, true, false, false])))]) (by kernel_rfl) ⟨timing_properS0, trivial⟩) (by decide) (fun a => by kernel_rfl)

/-! casebook/timing.Valid$1 -/

noncomputable def timing_Valid_1X : Ctx (RL.den [.bool]) := ⟨9, tt, gam [], lam [], resDec 9 tt [.tmp 2] [.bool]⟩

theorem timing_Valid_1G : CtxOK Try.prog timing_Valid_1X := gam_ok (AllM.all (l := []) trivial)

noncomputable def timing_Valid_1M : Mdl := mdlOf (.cons (.d (.int .i64)) .nil) [.bool] (fun (a : (Int × Unit)) => timing_Valid_1 a.1)

theorem timing_Valid_1_ok : MdlOK Try.prog 76 timing_Valid_1M :=
  fn_ok (c := (bodyOf Try.f76)) Try.func76 (by rfl) (by kernel_rfl) (X := timing_Valid_1X) (by kernel_rfl) (rs := [.tmp 2]) (by kernel_rfl) rfl timing_Valid_1G fits mixed (ann := .z) (AllS.all (l := []) (by kernel_rfl) trivial) (by decide) (fun a => by kernel_rfl)

/-! slices.IndexFunc[[]int,int] -/

noncomputable def slices_IndexFunc_int_int_76X : Ctx (RL.den [(.int .i64)]) := ⟨19, tt, gam [(76, timing_Valid_1M)], lam [loopSumm (RL.den [(.int .i64)]) slices_IndexFunc_int_int_76L0I (C := ((List Int) × Int)) (S := Int) (fun (x : (((List Int) × (Unit) × Int × Int × Unit) × (Unit))) => ((x.1.1, x.1.2.2.1), x.1.2.2.2.1)) slices_IndexFunc_int_int_76L0E (CE := Unit) (E := Unit) (fun (c : Unit) (e : Unit) => ((()), (()))) (fun (c : ((List Int) × Int)) => ()) (fun {R} c a nx dn rt => slices_IndexFunc_int_int_76L0K c.1 c.2 a nx dn rt)], resDec 19 tt [.tmp 4] [(.int .i64)]⟩

theorem slices_IndexFunc_int_int_76G : CtxOK Try.prog slices_IndexFunc_int_int_76X := gam_ok (AllM.all (l := [(76, timing_Valid_1M)]) ⟨timing_Valid_1_ok, trivial⟩)

theorem slices_IndexFunc_int_int_76S0 : SummOK Try.prog slices_IndexFunc_int_int_76X 0 (.block 0 (.loop (subC (bodyOf Try.f58) [true, false, true, false, false]))) :=
  loop_ok (shI := slices_IndexFunc_int_int_76L0I) (shE := slices_IndexFunc_int_int_76L0E) (C := ((List Int) × Int)) (S := Int) (CE := Unit) (E := Unit) slices_IndexFunc_int_int_76G fits mixed (ann := .z) (AllS.all (l := []) (by kernel_rfl) trivial) (mk := (fun (c : ((List Int) × Int)) (a : Int) => ((c.1, (()), c.2, a, ()), (())))) (unE := (fun (y : ((Unit) × (Unit))) => ((), ()))) rfl (fun _ => rfl) (fun _ => rfl) (fun R K D T c a => by kernel_rfl)

noncomputable def slices_IndexFunc_int_int_76M : Mdl := mdlOf (.cons (.d (.slice (.int .i64))) (.cons (.fn 76 .nil) .nil)) [(.int .i64)] (fun (a : ((List Int) × (Unit) × Unit)) => slices_IndexFunc_int_int_76 a.1)

theorem slices_IndexFunc_int_int_76_ok : MdlOK Try.prog 58 slices_IndexFunc_int_int_76M :=
  fn_ok (c := (bodyOf Try.f58)) Try.func58 (by rfl) (by kernel_rfl) (X := slices_IndexFunc_int_int_76X) (by kernel_rfl) (rs := [.tmp 4]) (by kernel_rfl) rfl slices_IndexFunc_int_int_76G fits mixed (ann := (.two .z (.two (.two .z (.s 0)) .z))) (AllS.all (l := [(0, .block 0 (.loop (subC (bodyOf Try.f58) [true, false, true, false, false])))]) (by kernel_rfl) ⟨slices_IndexFunc_int_int_76S0, trivial⟩) (by decide) (fun a => by kernel_rfl)

/-! slices.ContainsFunc[[]int,int] -/

noncomputable def slices_ContainsFunc_int_int_76X : Ctx (RL.den [.bool]) := ⟨9, tt, gam [(58, slices_IndexFunc_int_int_76M)], lam [], resDec 9 tt [.tmp 4] [.bool]⟩

theorem slices_ContainsFunc_int_int_76G : CtxOK Try.prog slices_ContainsFunc_int_int_76X := gam_ok (AllM.all (l := [(58, slices_IndexFunc_int_int_76M)]) ⟨slices_IndexFunc_int_int_76_ok, trivial⟩)

noncomputable def slices_ContainsFunc_int_int_76M : Mdl := mdlOf (.cons (.d (.slice (.int .i64))) (.cons (.fn 76 .nil) .nil)) [.bool] (fun (a : ((List Int) × (Unit) × Unit)) => slices_ContainsFunc_int_int_76 a.1)

theorem slices_ContainsFunc_int_int_76_ok : MdlOK Try.prog 31 slices_ContainsFunc_int_int_76M :=
  fn_ok (c := (bodyOf Try.f31)) Try.func31 (by rfl) (by kernel_rfl) (X := slices_ContainsFunc_int_int_76X) (by kernel_rfl) (rs := [.tmp 4]) (by kernel_rfl) rfl slices_ContainsFunc_int_int_76G fits mixed (ann := .z) (AllS.all (l := []) (by kernel_rfl) trivial) (by decide) (fun a => by kernel_rfl)

/-! casebook/timing.Valid -/

noncomputable def timing_ValidX : Ctx (RL.den [.bool]) := ⟨22, tt, gam [(75, timing_properM), (31, slices_ContainsFunc_int_int_76M)], lam [], resDec 22 tt [.tmp 2] [.bool]⟩

theorem timing_ValidG : CtxOK Try.prog timing_ValidX := gam_ok (AllM.all (l := [(75, timing_properM), (31, slices_ContainsFunc_int_int_76M)]) ⟨timing_proper_ok, slices_ContainsFunc_int_int_76_ok, trivial⟩)

noncomputable def timing_ValidM : Mdl := mdlOf (.cons (.d Histogram.ty) .nil) [.bool] (fun (a : (Histogram × Unit)) => timing_Valid a.1)

theorem timing_Valid_ok : MdlOK Try.prog 70 timing_ValidM :=
  fn_ok (c := (bodyOf Try.f70)) Try.func70 (by rfl) (by kernel_rfl) (X := timing_ValidX) (by kernel_rfl) (rs := [.tmp 2]) (by kernel_rfl) rfl timing_ValidG fits mixed (ann := .z) (AllS.all (l := []) (by kernel_rfl) trivial) (by decide) (fun a => by kernel_rfl)

/-! casebook/timing.total -/

noncomputable def timing_totalX : Ctx (RL.den [(.int .i64)]) := ⟨18, tt, gam [], lam [loopSumm (RL.den [(.int .i64)]) timing_totalL0I (C := ((List Int) × Int)) (S := (Int × Int)) (fun (x : ((Int × (List Int) × Int × Int × Unit) × (Unit))) => ((x.1.2.1, x.1.2.2.1), (x.1.1, x.1.2.2.2.1))) timing_totalL0E (CE := Unit) (E := Int) (fun (c : Unit) (e : Int) => ((e, ()), (()))) (fun (c : ((List Int) × Int)) => ()) (fun {R} c a nx dn rt => timing_totalL0K c.1 c.2 a.1 a.2 nx dn rt)], resDec 18 tt [.tmp 2] [(.int .i64)]⟩

theorem timing_totalG : CtxOK Try.prog timing_totalX := gam_ok (AllM.all (l := []) trivial)

theorem timing_totalS0 : SummOK Try.prog timing_totalX 0 (.block 0 (.loop (subC (bodyOf Try.f71) [true, true, false, true, false, false]))) :=
  loop_ok (shI := timing_totalL0I) (shE := timing_totalL0E) (C := ((List Int) × Int)) (S := (Int × Int)) (CE := Unit) (E := Int) timing_totalG fits mixed (ann := .z) (AllS.all (l := []) (by kernel_rfl) trivial) (mk := (fun (c : ((List Int) × Int)) (a : (Int × Int)) => ((a.1, c.1, c.2, a.2, ()), (())))) (unE := (fun (y : ((Int × Unit) × (Unit))) => ((), y.1.1))) rfl (fun _ => rfl) (fun _ => rfl) (fun R K D T c a => by kernel_rfl)

noncomputable def timing_totalM : Mdl := mdlOf (.cons (.d Histogram.ty) .nil) [(.int .i64)] (fun (a : (Histogram × Unit)) => timing_total a.1)

theorem timing_total_ok : MdlOK Try.prog 71 timing_totalM :=
  fn_ok (c := (bodyOf Try.f71)) Try.func71 (by rfl) (by kernel_rfl) (X := timing_totalX) (by kernel_rfl) (rs := [.tmp 2]) (by kernel_rfl) rfl timing_totalG fits mixed (ann := (.two .z (.two .z (.two (.two .z (.s 0)) .z)))) (AllS.all (l := [(0, .block 0 (.loop (subC (bodyOf Try.f71) [true, true, false, true, false, false])))]) (by kernel_rfl) ⟨timing_totalS0, trivial⟩) (by decide) (fun a => by kernel_rfl)

/-! casebook/timing.Total -/

noncomputable def timing_TotalX : Ctx (RL.den [(.int .i64), (.int .i64)]) := ⟨9, tt, gam [(70, timing_ValidM), (71, timing_totalM)], lam [], resDec 9 tt [.tmp 2, .tmp 3] [(.int .i64), (.int .i64)]⟩

theorem timing_TotalG : CtxOK Try.prog timing_TotalX := gam_ok (AllM.all (l := [(70, timing_ValidM), (71, timing_totalM)]) ⟨timing_Valid_ok, timing_total_ok, trivial⟩)

noncomputable def timing_TotalM : Mdl := mdlOf (.cons (.d Histogram.ty) .nil) [(.int .i64), (.int .i64)] (fun (a : (Histogram × Unit)) => timing_Total a.1)

theorem timing_Total_ok : MdlOK Try.prog 53 timing_TotalM :=
  fn_ok (c := (bodyOf Try.f53)) Try.func53 (by rfl) (by kernel_rfl) (X := timing_TotalX) (by kernel_rfl) (rs := [.tmp 2, .tmp 3]) (by kernel_rfl) rfl timing_TotalG fits mixed (ann := .z) (AllS.all (l := []) (by kernel_rfl) trivial) (by decide) (fun a => by kernel_rfl)

/-! casebook/timing.Sample -/

noncomputable def timing_SampleX : Ctx (RL.den [(.int .i64), (.int .i64)]) := ⟨60, tt, gam [(70, timing_ValidM), (71, timing_totalM)], lam [loopSumm (RL.den [(.int .i64), (.int .i64)]) timing_SampleL0I (C := ((List Int) × (List Int))) (S := (Int × Int)) (fun (x : ((Int × Unit × Int × Unit) × (((List Int) × (List Int) × Unit) × Unit))) => ((x.2.1.1, x.2.1.2.1), (x.1.1, x.1.2.2.1))) timing_SampleL0E (CE := ((List Int) × (List Int))) (E := (Int × Int)) (fun (c : ((List Int) × (List Int))) (e : (Int × Int)) => ((e.1, (), e.2, ()), ((c.1, c.2, ()), ()))) (fun (c : ((List Int) × (List Int))) => (c.1, c.2)) (fun {R} c a nx dn rt => timing_SampleL0K c.1 c.2 a.1 a.2 nx dn rt)], resDec 60 tt [.tmp 4, .tmp 5] [(.int .i64), (.int .i64)]⟩

theorem timing_SampleG : CtxOK Try.prog timing_SampleX := gam_ok (AllM.all (l := [(70, timing_ValidM), (71, timing_totalM)]) ⟨timing_Valid_ok, timing_total_ok, trivial⟩)

theorem timing_SampleS0 : SummOK Try.prog timing_SampleX 0 (.block 0 (.loop (subC (bodyOf Try.f54) [true, true, true, true, false, false, false]))) :=
  loop_ok (shI := timing_SampleL0I) (shE := timing_SampleL0E) (C := ((List Int) × (List Int))) (S := (Int × Int)) (CE := ((List Int) × (List Int))) (E := (Int × Int)) timing_SampleG fits mixed (ann := .z) (AllS.all (l := []) (by kernel_rfl) trivial) (mk := (fun (c : ((List Int) × (List Int))) (a : (Int × Int)) => ((a.1, (), a.2, ()), ((c.1, c.2, ()), ())))) (unE := (fun (y : ((Int × Unit × Int × Unit) × (((List Int) × (List Int) × Unit) × Unit))) => ((y.2.1.1, y.2.1.2.1), (y.1.1, y.1.2.2.1)))) rfl (fun _ => rfl) (fun _ => rfl) (fun R K D T c a => by kernel_rfl)

noncomputable def timing_SampleM : Mdl := mdlOf (.cons (.d Histogram.ty) (.cons (.d (.int .i64)) .nil)) [(.int .i64), (.int .i64)] (fun (a : (Histogram × Int × Unit)) => timing_Sample a.1 a.2.1)

theorem timing_Sample_ok : MdlOK Try.prog 54 timing_SampleM :=
  fn_ok (c := (bodyOf Try.f54)) Try.func54 (by rfl) (by kernel_rfl) (X := timing_SampleX) (by kernel_rfl) (rs := [.tmp 4, .tmp 5]) (by kernel_rfl) rfl timing_SampleG fits mixed (ann := (.two .z (.two .z (.two .z (.two .z (.two (.s 0) .z)))))) (AllS.all (l := [(0, .block 0 (.loop (subC (bodyOf Try.f54) [true, true, true, true, false, false, false])))]) (by kernel_rfl) ⟨timing_SampleS0, trivial⟩) (by decide) (fun a => by kernel_rfl)

/-! casebook/simulate.Customers -/

noncomputable def simulate_CustomersX : Ctx (RL.den [(.slice Customer.ty), (.int .i64)]) := ⟨95, tt, gam [(53, timing_TotalM), (49, simulate_entryM), (50, simulate_randomM), (54, timing_SampleM)], lam [loopSumm (RL.den [(.slice Customer.ty), (.int .i64)]) simulate_CustomersL0I (C := (Int × Int × Int × Int × (List Int) × (List Int) × (List Int) × (List Int))) (S := (Int × Int × (List Customer))) (fun (x : ((Int × Unit × Unit × Int × Int × Unit × Int × Int × Int × Unit) × (((List Int) × (List Int) × Unit) × ((List Int) × (List Int) × Unit) × (List Customer) × Unit))) => ((x.1.1, x.1.2.2.2.1, x.1.2.2.2.2.1, x.1.2.2.2.2.2.2.2.1, x.2.1.1, x.2.1.2.1, x.2.2.1.1, x.2.2.1.2.1), (x.1.2.2.2.2.2.2.1, x.1.2.2.2.2.2.2.2.2.1, x.2.2.2.1))) simulate_CustomersL0E (CE := Unit) (E := (List Customer)) (fun (c : Unit) (e : (List Customer)) => (((), ()), (e, ()))) (fun (c : (Int × Int × Int × Int × (List Int) × (List Int) × (List Int) × (List Int))) => ()) (fun {R} c a nx dn rt => simulate_CustomersL0K c.1 c.2.1 c.2.2.1 c.2.2.2.1 c.2.2.2.2.1 c.2.2.2.2.2.1 c.2.2.2.2.2.2.1 c.2.2.2.2.2.2.2 a.1 a.2.1 a.2.2 nx dn rt)], resDec 95 tt [.tmp 8, .tmp 9] [(.slice Customer.ty), (.int .i64)]⟩

theorem simulate_CustomersG : CtxOK Try.prog simulate_CustomersX := gam_ok (AllM.all (l := [(53, timing_TotalM), (49, simulate_entryM), (50, simulate_randomM), (54, timing_SampleM)]) ⟨timing_Total_ok, simulate_entry_ok, simulate_random_ok, timing_Sample_ok, trivial⟩)

theorem simulate_CustomersS0 : SummOK Try.prog simulate_CustomersX 0 (.block 1 (.loop (subC (bodyOf Try.f28) [true, true, true, true, true, true, false, true, false, false]))) :=
  loop_ok (shI := simulate_CustomersL0I) (shE := simulate_CustomersL0E) (C := (Int × Int × Int × Int × (List Int) × (List Int) × (List Int) × (List Int))) (S := (Int × Int × (List Customer))) (CE := Unit) (E := (List Customer)) simulate_CustomersG fits mixed (ann := .z) (AllS.all (l := []) (by kernel_rfl) trivial) (mk := (fun (c : (Int × Int × Int × Int × (List Int) × (List Int) × (List Int) × (List Int))) (a : (Int × Int × (List Customer))) => ((c.1, (), (), c.2.1, c.2.2.1, (), a.1, c.2.2.2.1, a.2.1, ()), ((c.2.2.2.2.1, c.2.2.2.2.2.1, ()), (c.2.2.2.2.2.2.1, c.2.2.2.2.2.2.2, ()), a.2.2, ())))) (unE := (fun (y : ((Unit × Unit) × ((List Customer) × Unit))) => ((), y.2.1))) rfl (fun _ => rfl) (fun _ => rfl) (fun R K D T c a => by kernel_rfl)

noncomputable def simulate_CustomersM : Mdl := mdlOf (.cons (.d Histogram.ty) (.cons (.d Histogram.ty) (.cons (.d (.int .i64)) (.cons (.d (.int .i64)) .nil)))) [(.slice Customer.ty), (.int .i64)] (fun (a : (Histogram × Histogram × Int × Int × Unit)) => simulate_Customers a.1 a.2.1 a.2.2.1 a.2.2.2.1)

theorem simulate_Customers_ok : MdlOK Try.prog 28 simulate_CustomersM :=
  fn_ok (c := (bodyOf Try.f28)) Try.func28 (by rfl) (by kernel_rfl) (X := simulate_CustomersX) (by kernel_rfl) (rs := [.tmp 8, .tmp 9]) (by kernel_rfl) rfl simulate_CustomersG fits mixed (ann := (.two .z (.two .z (.two .z (.two .z (.two .z (.two .z (.two (.two .z (.s 0)) .z)))))))) (AllS.all (l := [(0, .block 1 (.loop (subC (bodyOf Try.f28) [true, true, true, true, true, true, false, true, false, false])))]) (by kernel_rfl) ⟨simulate_CustomersS0, trivial⟩) (by decide) (fun a => by kernel_rfl)

/-! casebook/casebookref40.Valid -/

noncomputable def ref40_ValidX : Ctx (RL.den [.bool]) := ⟨85, tt, gam [], lam [loopSumm (RL.den [.bool]) ref40_ValidL0I (C := ((List Int) × (List Int))) (S := Int) (fun (x : ((Unit × Int × Unit) × (((List Int) × (List Int) × Unit) × Unit))) => ((x.2.1.1, x.2.1.2.1), x.1.2.1)) ref40_ValidL0E (CE := ((List Int) × (List Int))) (E := Unit) (fun (c : ((List Int) × (List Int))) (e : Unit) => (((), ()), ((c.1, c.2, ()), ()))) (fun (c : ((List Int) × (List Int))) => (c.1, c.2)) (fun {R} c a nx dn rt => ref40_ValidL0K c.1 c.2 a nx dn rt),
  loopSumm (RL.den [.bool]) ref40_ValidL1I (C := ((List Int) × (List Int))) (S := Int) (fun (x : ((Unit × Int × Unit) × (((List Int) × (List Int) × Unit) × Unit))) => ((x.2.1.1, x.2.1.2.1), x.1.2.1)) ref40_ValidL1E (CE := Unit) (E := Unit) (fun (c : Unit) (e : Unit) => ((()), (()))) (fun (c : ((List Int) × (List Int))) => ()) (fun {R} c a nx dn rt => ref40_ValidL1K c.1 c.2 a nx dn rt)], resDec 85 tt [.tmp 2] [.bool]⟩

theorem ref40_ValidG : CtxOK Try.prog ref40_ValidX := gam_ok (AllM.all (l := []) trivial)

theorem ref40_ValidS1 : SummOK Try.prog ref40_ValidX 1 (.block 2 (.loop (subC (bodyOf Try.f55) [true, true, true, false, true, false, false]))) :=
  loop_ok (shI := ref40_ValidL1I) (shE := ref40_ValidL1E) (C := ((List Int) × (List Int))) (S := Int) (CE := Unit) (E := Unit) ref40_ValidG fits mixed (ann := .z) (AllS.all (l := []) (by kernel_rfl) trivial) (mk := (fun (c : ((List Int) × (List Int))) (a : Int) => (((), a, ()), ((c.1, c.2, ()), ())))) (unE := (fun (y : ((Unit) × (Unit))) => ((), ()))) rfl (fun _ => rfl) (fun _ => rfl) (fun R K D T c a => by kernel_rfl)

theorem ref40_ValidS0 : SummOK Try.prog ref40_ValidX 0 (.block 0 (.loop (subC (bodyOf Try.f55) [true, true, false, true, false, false]))) :=
  loop_ok (shI := ref40_ValidL0I) (shE := ref40_ValidL0E) (C := ((List Int) × (List Int))) (S := Int) (CE := ((List Int) × (List Int))) (E := Unit) ref40_ValidG fits mixed (ann := .z) (AllS.all (l := []) (by kernel_rfl) trivial) (mk := (fun (c : ((List Int) × (List Int))) (a : Int) => (((), a, ()), ((c.1, c.2, ()), ())))) (unE := (fun (y : ((Unit × Unit) × (((List Int) × (List Int) × Unit) × Unit))) => ((y.2.1.1, y.2.1.2.1), ()))) rfl (fun _ => rfl) (fun _ => rfl) (fun R K D T c a => by kernel_rfl)

noncomputable def ref40_ValidM : Mdl := mdlOf (.cons (.d Histogram.ty) .nil) [.bool] (fun (a : (Histogram × Unit)) => ref40_Valid a.1)

theorem ref40_Valid_ok : MdlOK Try.prog 55 ref40_ValidM :=
  fn_ok (c := (bodyOf Try.f55)) Try.func55 (by rfl) (by kernel_rfl) (X := ref40_ValidX) (by kernel_rfl) (rs := [.tmp 2]) (by kernel_rfl) rfl ref40_ValidG fits mixed (ann := (.two .z (.two .z (.two (.two .z (.s 0)) (.two (.two .z (.s 1)) .z))))) (AllS.all (l := [(0, .block 0 (.loop (subC (bodyOf Try.f55) [true, true, false, true, false, false]))), (1, .block 2 (.loop (subC (bodyOf Try.f55) [true, true, true, false, true, false, false])))]) (by kernel_rfl) ⟨ref40_ValidS0, ref40_ValidS1, trivial⟩) (by decide) (fun a => by kernel_rfl)

/-! casebook/casebookref40.Total -/

noncomputable def ref40_TotalX : Ctx (RL.den [(.int .i64)]) := ⟨20, tt, gam [], lam [loopSumm (RL.den [(.int .i64)]) ref40_TotalL0I (C := ((List Int) × (List Int))) (S := (Int × Int)) (fun (x : ((Unit × Int × Int × Unit) × (((List Int) × (List Int) × Unit) × Unit))) => ((x.2.1.1, x.2.1.2.1), (x.1.2.1, x.1.2.2.1))) ref40_TotalL0E (CE := Unit) (E := Int) (fun (c : Unit) (e : Int) => ((e, ()), (()))) (fun (c : ((List Int) × (List Int))) => ()) (fun {R} c a nx dn rt => ref40_TotalL0K c.1 c.2 a.1 a.2 nx dn rt)], resDec 20 tt [.tmp 2] [(.int .i64)]⟩

theorem ref40_TotalG : CtxOK Try.prog ref40_TotalX := gam_ok (AllM.all (l := []) trivial)

theorem ref40_TotalS0 : SummOK Try.prog ref40_TotalX 0 (.block 0 (.loop (subC (bodyOf Try.f56) [true, true, false, true, false, false]))) :=
  loop_ok (shI := ref40_TotalL0I) (shE := ref40_TotalL0E) (C := ((List Int) × (List Int))) (S := (Int × Int)) (CE := Unit) (E := Int) ref40_TotalG fits mixed (ann := .z) (AllS.all (l := []) (by kernel_rfl) trivial) (mk := (fun (c : ((List Int) × (List Int))) (a : (Int × Int)) => (((), a.1, a.2, ()), ((c.1, c.2, ()), ())))) (unE := (fun (y : ((Int × Unit) × (Unit))) => ((), y.1.1))) rfl (fun _ => rfl) (fun _ => rfl) (fun R K D T c a => by kernel_rfl)

noncomputable def ref40_TotalM : Mdl := mdlOf (.cons (.d Histogram.ty) .nil) [(.int .i64)] (fun (a : (Histogram × Unit)) => ref40_Total a.1)

theorem ref40_Total_ok : MdlOK Try.prog 56 ref40_TotalM :=
  fn_ok (c := (bodyOf Try.f56)) Try.func56 (by rfl) (by kernel_rfl) (X := ref40_TotalX) (by kernel_rfl) (rs := [.tmp 2]) (by kernel_rfl) rfl ref40_TotalG fits mixed (ann := (.two .z (.two .z (.two (.two .z (.s 0)) .z)))) (AllS.all (l := [(0, .block 0 (.loop (subC (bodyOf Try.f56) [true, true, false, true, false, false])))]) (by kernel_rfl) ⟨ref40_TotalS0, trivial⟩) (by decide) (fun a => by kernel_rfl)

/-! casebook/casebookref40.Sample -/

noncomputable def ref40_SampleX : Ctx (RL.den [(.int .i64)]) := ⟨48, tt, gam [], lam [loopSumm (RL.den [(.int .i64)]) ref40_SampleL0I (C := ((List Int) × (List Int))) (S := (Int × Int)) (fun (x : ((Int × Unit × Int × Unit) × (((List Int) × (List Int) × Unit) × Unit))) => ((x.2.1.1, x.2.1.2.1), (x.1.1, x.1.2.2.1))) ref40_SampleL0E (CE := ((List Int) × (List Int))) (E := (Int × Int)) (fun (c : ((List Int) × (List Int))) (e : (Int × Int)) => ((e.1, (), e.2, ()), ((c.1, c.2, ()), ()))) (fun (c : ((List Int) × (List Int))) => (c.1, c.2)) (fun {R} c a nx dn rt => ref40_SampleL0K c.1 c.2 a.1 a.2 nx dn rt)], resDec 48 tt [.tmp 4] [(.int .i64)]⟩

theorem ref40_SampleG : CtxOK Try.prog ref40_SampleX := gam_ok (AllM.all (l := []) trivial)

theorem ref40_SampleS0 : SummOK Try.prog ref40_SampleX 0 (.block 0 (.loop (subC (bodyOf Try.f72) [true, true, false, false, false]))) :=
  loop_ok (shI := ref40_SampleL0I) (shE := ref40_SampleL0E) (C := ((List Int) × (List Int))) (S := (Int × Int)) (CE := ((List Int) × (List Int))) (E := (Int × Int)) ref40_SampleG fits mixed (ann := .z) (AllS.all (l := []) (by kernel_rfl) trivial) (mk := (fun (c : ((List Int) × (List Int))) (a : (Int × Int)) => ((a.1, (), a.2, ()), ((c.1, c.2, ()), ())))) (unE := (fun (y : ((Int × Unit × Int × Unit) × (((List Int) × (List Int) × Unit) × Unit))) => ((y.2.1.1, y.2.1.2.1), (y.1.1, y.1.2.2.1)))) rfl (fun _ => rfl) (fun _ => rfl) (fun R K D T c a => by kernel_rfl)

noncomputable def ref40_SampleM : Mdl := mdlOf (.cons (.d Histogram.ty) (.cons (.d (.int .i64)) .nil)) [(.int .i64)] (fun (a : (Histogram × Int × Unit)) => ref40_Sample a.1 a.2.1)

theorem ref40_Sample_ok : MdlOK Try.prog 72 ref40_SampleM :=
  fn_ok (c := (bodyOf Try.f72)) Try.func72 (by rfl) (by kernel_rfl) (X := ref40_SampleX) (by kernel_rfl) (rs := [.tmp 4]) (by kernel_rfl) rfl ref40_SampleG fits mixed (ann := (.two .z (.two .z (.two (.s 0) .z)))) (AllS.all (l := [(0, .block 0 (.loop (subC (bodyOf Try.f72) [true, true, false, false, false])))]) (by kernel_rfl) ⟨ref40_SampleS0, trivial⟩) (by decide) (fun a => by kernel_rfl)

/-! casebook/casebookref53.sample -/

noncomputable def ref53_sampleX : Ctx (RL.den [(.int .i64)]) := ⟨11, tt, gam [(56, ref40_TotalM), (72, ref40_SampleM)], lam [], resDec 11 tt [.tmp 4] [(.int .i64)]⟩

theorem ref53_sampleG : CtxOK Try.prog ref53_sampleX := gam_ok (AllM.all (l := [(56, ref40_TotalM), (72, ref40_SampleM)]) ⟨ref40_Total_ok, ref40_Sample_ok, trivial⟩)

noncomputable def ref53_sampleM : Mdl := mdlOf (.cons (.d Histogram.ty) (.cons (.d (.int .i64)) .nil)) [(.int .i64)] (fun (a : (Histogram × Int × Unit)) => ref53_sample a.1 a.2.1)

theorem ref53_sample_ok : MdlOK Try.prog 57 ref53_sampleM :=
  fn_ok (c := (bodyOf Try.f57)) Try.func57 (by rfl) (by kernel_rfl) (X := ref53_sampleX) (by kernel_rfl) (rs := [.tmp 4]) (by kernel_rfl) rfl ref53_sampleG fits mixed (ann := .z) (AllS.all (l := []) (by kernel_rfl) trivial) (by decide) (fun a => by kernel_rfl)

/-! casebook/casebookref53.Customers -/

noncomputable def ref53_CustomersX : Ctx (RL.den [(.slice Customer.ty), (.int .i64)]) := ⟨66, tt, gam [(55, ref40_ValidM), (51, ref53_seedM), (56, ref40_TotalM), (52, ref53_RandomM), (57, ref53_sampleM)], lam [loopSumm (RL.den [(.slice Customer.ty), (.int .i64)]) ref53_CustomersL0I (C := (Int × Int × (List Int) × (List Int) × (List Int) × (List Int))) (S := (Int × Int × (List Customer))) (fun (x : ((Int × Int × Unit × Unit × Unit × Int × Int × Unit) × (((List Int) × (List Int) × Unit) × ((List Int) × (List Int) × Unit) × (List Customer) × Unit))) => ((x.1.1, x.1.2.1, x.2.1.1, x.2.1.2.1, x.2.2.1.1, x.2.2.1.2.1), (x.1.2.2.2.2.2.1, x.1.2.2.2.2.2.2.1, x.2.2.2.1))) ref53_CustomersL0E (CE := Unit) (E := (List Customer)) (fun (c : Unit) (e : (List Customer)) => (((), ()), (e, ()))) (fun (c : (Int × Int × (List Int) × (List Int) × (List Int) × (List Int))) => ()) (fun {R} c a nx dn rt => ref53_CustomersL0K c.1 c.2.1 c.2.2.1 c.2.2.2.1 c.2.2.2.2.1 c.2.2.2.2.2 a.1 a.2.1 a.2.2 nx dn rt)], resDec 66 tt [.tmp 8, .tmp 9] [(.slice Customer.ty), (.int .i64)]⟩

theorem ref53_CustomersG : CtxOK Try.prog ref53_CustomersX := gam_ok (AllM.all (l := [(55, ref40_ValidM), (51, ref53_seedM), (56, ref40_TotalM), (52, ref53_RandomM), (57, ref53_sampleM)]) ⟨ref40_Valid_ok, ref53_seed_ok, ref40_Total_ok, ref53_Random_ok, ref53_sample_ok, trivial⟩)

theorem ref53_CustomersS0 : SummOK Try.prog ref53_CustomersX 0 (.block 0 (.loop (subC (bodyOf Try.f29) [true, true, true, true, true, true, false, true, false, false]))) :=
  loop_ok (shI := ref53_CustomersL0I) (shE := ref53_CustomersL0E) (C := (Int × Int × (List Int) × (List Int) × (List Int) × (List Int))) (S := (Int × Int × (List Customer))) (CE := Unit) (E := (List Customer)) ref53_CustomersG fits mixed (ann := .z) (AllS.all (l := []) (by kernel_rfl) trivial) (mk := (fun (c : (Int × Int × (List Int) × (List Int) × (List Int) × (List Int))) (a : (Int × Int × (List Customer))) => ((c.1, c.2.1, (), (), (), a.1, a.2.1, ()), ((c.2.2.1, c.2.2.2.1, ()), (c.2.2.2.2.1, c.2.2.2.2.2, ()), a.2.2, ())))) (unE := (fun (y : ((Unit × Unit) × ((List Customer) × Unit))) => ((), y.2.1))) rfl (fun _ => rfl) (fun _ => rfl) (fun R K D T c a => by kernel_rfl)

noncomputable def ref53_CustomersM : Mdl := mdlOf (.cons (.d Histogram.ty) (.cons (.d Histogram.ty) (.cons (.d (.int .i64)) (.cons (.d (.int .i64)) .nil)))) [(.slice Customer.ty), (.int .i64)] (fun (a : (Histogram × Histogram × Int × Int × Unit)) => ref53_Customers a.1 a.2.1 a.2.2.1 a.2.2.2.1)

theorem ref53_Customers_ok : MdlOK Try.prog 29 ref53_CustomersM :=
  fn_ok (c := (bodyOf Try.f29)) Try.func29 (by rfl) (by kernel_rfl) (X := ref53_CustomersX) (by kernel_rfl) (rs := [.tmp 8, .tmp 9]) (by kernel_rfl) rfl ref53_CustomersG fits mixed (ann := (.two .z (.two .z (.two .z (.two .z (.two .z (.two .z (.two (.two .z (.s 0)) .z)))))))) (AllS.all (l := [(0, .block 0 (.loop (subC (bodyOf Try.f29) [true, true, true, true, true, true, false, true, false, false])))]) (by kernel_rfl) ⟨ref53_CustomersS0, trivial⟩) (by decide) (fun a => by kernel_rfl)

/-! casebook/casebooklaw53.SimulateCustomers -/

noncomputable def law53_SimulateCustomersX : Ctx (RL.den [.bool]) := ⟨77, tt, gam [(11, law53_awakeM), (25, simulate_RandomM), (26, ref53_SafeRandomM), (27, law53_wideM), (28, simulate_CustomersM), (29, ref53_CustomersM), (18, ref53_SameM)], lam [], resDec 77 tt [.tmp 8] [.bool]⟩

theorem law53_SimulateCustomersG : CtxOK Try.prog law53_SimulateCustomersX := gam_ok (AllM.all (l := [(11, law53_awakeM), (25, simulate_RandomM), (26, ref53_SafeRandomM), (27, law53_wideM), (28, simulate_CustomersM), (29, ref53_CustomersM), (18, ref53_SameM)]) ⟨law53_awake_ok, simulate_Random_ok, ref53_SafeRandom_ok, law53_wide_ok, simulate_Customers_ok, ref53_Customers_ok, ref53_Same_ok, trivial⟩)

noncomputable def law53_SimulateCustomersM : Mdl := mdlOf (.cons (.d Histogram.ty) (.cons (.d Histogram.ty) (.cons (.d (.int .i64)) (.cons (.d (.int .i64)) .nil)))) [.bool] (fun (a : (Histogram × Histogram × Int × Int × Unit)) => law53_SimulateCustomers a.1 a.2.1 a.2.2.1 a.2.2.2.1)

theorem law53_SimulateCustomers_ok : MdlOK Try.prog 8 law53_SimulateCustomersM :=
  fn_ok (c := (bodyOf Try.f8)) Try.func8 (by rfl) (by kernel_rfl) (X := law53_SimulateCustomersX) (by kernel_rfl) (rs := [.tmp 8]) (by kernel_rfl) rfl law53_SimulateCustomersG fits mixed (ann := .z) (AllS.all (l := []) (by kernel_rfl) trivial) (by decide) (fun a => by kernel_rfl)

/-! casebook/simulate.Compare -/

noncomputable def simulate_CompareX : Ctx (RL.den [(.slice (.int .i64)), (.int .i64)]) := ⟨52, tt, gam [(14, simulate_ServeM)], lam [loopSumm (RL.den [(.slice (.int .i64)), (.int .i64)]) simulate_CompareL0I (C := ((List Customer) × (List Customer) × Int)) (S := (Int × (List Int))) (fun (x : (((List Customer) × (List Customer) × Unit × Int × Int × Unit) × ((List Int) × Unit))) => ((x.1.1, x.1.2.1, x.1.2.2.2.1), (x.1.2.2.2.2.1, x.2.1))) simulate_CompareL0E (CE := Unit) (E := (List Int)) (fun (c : Unit) (e : (List Int)) => (((), ()), (e, ()))) (fun (c : ((List Customer) × (List Customer) × Int)) => ()) (fun {R} c a nx dn rt => simulate_CompareL0K c.1 c.2.1 c.2.2 a.1 a.2 nx dn rt)], resDec 52 tt [.tmp 6, .tmp 7] [(.slice (.int .i64)), (.int .i64)]⟩

theorem simulate_CompareG : CtxOK Try.prog simulate_CompareX := gam_ok (AllM.all (l := [(14, simulate_ServeM)]) ⟨simulate_Serve_ok, trivial⟩)

theorem simulate_CompareS0 : SummOK Try.prog simulate_CompareX 0 (.block 0 (.loop (subC (bodyOf Try.f30) [true, true, true, true, true, true, false, true, false, false]))) :=
  loop_ok (shI := simulate_CompareL0I) (shE := simulate_CompareL0E) (C := ((List Customer) × (List Customer) × Int)) (S := (Int × (List Int))) (CE := Unit) (E := (List Int)) simulate_CompareG fits mixed (ann := .z) (AllS.all (l := []) (by kernel_rfl) trivial) (mk := (fun (c : ((List Customer) × (List Customer) × Int)) (a : (Int × (List Int))) => ((c.1, c.2.1, (), c.2.2, a.1, ()), (a.2, ())))) (unE := (fun (y : ((Unit × Unit) × ((List Int) × Unit))) => ((), y.2.1))) rfl (fun _ => rfl) (fun _ => rfl) (fun R K D T c a => by kernel_rfl)

noncomputable def simulate_CompareM : Mdl := mdlOf (.cons (.d (.slice Customer.ty)) (.cons (.d (.int .i64)) (.cons (.d (.int .i64)) .nil))) [(.slice (.int .i64)), (.int .i64)] (fun (a : ((List Customer) × Int × Int × Unit)) => simulate_Compare a.1 a.2.1 a.2.2.1)

theorem simulate_Compare_ok : MdlOK Try.prog 30 simulate_CompareM :=
  fn_ok (c := (bodyOf Try.f30)) Try.func30 (by rfl) (by kernel_rfl) (X := simulate_CompareX) (by kernel_rfl) (rs := [.tmp 6, .tmp 7]) (by kernel_rfl) rfl simulate_CompareG fits mixed (ann := (.two .z (.two .z (.two .z (.two .z (.two .z (.two .z (.two (.two .z (.s 0)) .z)))))))) (AllS.all (l := [(0, .block 0 (.loop (subC (bodyOf Try.f30) [true, true, true, true, true, true, false, true, false, false])))]) (by kernel_rfl) ⟨simulate_CompareS0, trivial⟩) (by decide) (fun a => by kernel_rfl)

/-! casebook/casebooklaw53.SimulateMore$1 -/

noncomputable def law53_SimulateMore_1X : Ctx (RL.den [.bool]) := ⟨5, tt, gam [], lam [], resDec 5 tt [.tmp 2] [.bool]⟩

theorem law53_SimulateMore_1G : CtxOK Try.prog law53_SimulateMore_1X := gam_ok (AllM.all (l := []) trivial)

noncomputable def law53_SimulateMore_1M : Mdl := mdlOf (.cons (.d (.int .i64)) .nil) [.bool] (fun (a : (Int × Unit)) => law53_SimulateMore_1 a.1)

theorem law53_SimulateMore_1_ok : MdlOK Try.prog 32 law53_SimulateMore_1M :=
  fn_ok (c := (bodyOf Try.f32)) Try.func32 (by rfl) (by kernel_rfl) (X := law53_SimulateMore_1X) (by kernel_rfl) (rs := [.tmp 2]) (by kernel_rfl) rfl law53_SimulateMore_1G fits mixed (ann := .z) (AllS.all (l := []) (by kernel_rfl) trivial) (by decide) (fun a => by kernel_rfl)

/-! slices.IndexFunc[[]int,int] -/

noncomputable def slices_IndexFunc_int_int_32X : Ctx (RL.den [(.int .i64)]) := ⟨19, tt, gam [(32, law53_SimulateMore_1M)], lam [loopSumm (RL.den [(.int .i64)]) slices_IndexFunc_int_int_32L0I (C := ((List Int) × Int)) (S := Int) (fun (x : (((List Int) × (Unit) × Int × Int × Unit) × (Unit))) => ((x.1.1, x.1.2.2.1), x.1.2.2.2.1)) slices_IndexFunc_int_int_32L0E (CE := Unit) (E := Unit) (fun (c : Unit) (e : Unit) => ((()), (()))) (fun (c : ((List Int) × Int)) => ()) (fun {R} c a nx dn rt => slices_IndexFunc_int_int_32L0K c.1 c.2 a nx dn rt)], resDec 19 tt [.tmp 4] [(.int .i64)]⟩

theorem slices_IndexFunc_int_int_32G : CtxOK Try.prog slices_IndexFunc_int_int_32X := gam_ok (AllM.all (l := [(32, law53_SimulateMore_1M)]) ⟨law53_SimulateMore_1_ok, trivial⟩)

theorem slices_IndexFunc_int_int_32S0 : SummOK Try.prog slices_IndexFunc_int_int_32X 0 (.block 0 (.loop (subC (bodyOf Try.f58) [true, false, true, false, false]))) :=
  loop_ok (shI := slices_IndexFunc_int_int_32L0I) (shE := slices_IndexFunc_int_int_32L0E) (C := ((List Int) × Int)) (S := Int) (CE := Unit) (E := Unit) slices_IndexFunc_int_int_32G fits mixed (ann := .z) (AllS.all (l := []) (by kernel_rfl) trivial) (mk := (fun (c : ((List Int) × Int)) (a : Int) => ((c.1, (()), c.2, a, ()), (())))) (unE := (fun (y : ((Unit) × (Unit))) => ((), ()))) rfl (fun _ => rfl) (fun _ => rfl) (fun R K D T c a => by kernel_rfl)

noncomputable def slices_IndexFunc_int_int_32M : Mdl := mdlOf (.cons (.d (.slice (.int .i64))) (.cons (.fn 32 .nil) .nil)) [(.int .i64)] (fun (a : ((List Int) × (Unit) × Unit)) => slices_IndexFunc_int_int_32 a.1)

theorem slices_IndexFunc_int_int_32_ok : MdlOK Try.prog 58 slices_IndexFunc_int_int_32M :=
  fn_ok (c := (bodyOf Try.f58)) Try.func58 (by rfl) (by kernel_rfl) (X := slices_IndexFunc_int_int_32X) (by kernel_rfl) (rs := [.tmp 4]) (by kernel_rfl) rfl slices_IndexFunc_int_int_32G fits mixed (ann := (.two .z (.two (.two .z (.s 0)) .z))) (AllS.all (l := [(0, .block 0 (.loop (subC (bodyOf Try.f58) [true, false, true, false, false])))]) (by kernel_rfl) ⟨slices_IndexFunc_int_int_32S0, trivial⟩) (by decide) (fun a => by kernel_rfl)

/-! slices.ContainsFunc[[]int,int] -/

noncomputable def slices_ContainsFunc_int_int_32X : Ctx (RL.den [.bool]) := ⟨9, tt, gam [(58, slices_IndexFunc_int_int_32M)], lam [], resDec 9 tt [.tmp 4] [.bool]⟩

theorem slices_ContainsFunc_int_int_32G : CtxOK Try.prog slices_ContainsFunc_int_int_32X := gam_ok (AllM.all (l := [(58, slices_IndexFunc_int_int_32M)]) ⟨slices_IndexFunc_int_int_32_ok, trivial⟩)

noncomputable def slices_ContainsFunc_int_int_32M : Mdl := mdlOf (.cons (.d (.slice (.int .i64))) (.cons (.fn 32 .nil) .nil)) [.bool] (fun (a : ((List Int) × (Unit) × Unit)) => slices_ContainsFunc_int_int_32 a.1)

theorem slices_ContainsFunc_int_int_32_ok : MdlOK Try.prog 31 slices_ContainsFunc_int_int_32M :=
  fn_ok (c := (bodyOf Try.f31)) Try.func31 (by rfl) (by kernel_rfl) (X := slices_ContainsFunc_int_int_32X) (by kernel_rfl) (rs := [.tmp 4]) (by kernel_rfl) rfl slices_ContainsFunc_int_int_32G fits mixed (ann := .z) (AllS.all (l := []) (by kernel_rfl) trivial) (by decide) (fun a => by kernel_rfl)

/-! casebook/casebooklaw53.SimulateMore -/

noncomputable def law53_SimulateMoreX : Ctx (RL.den [.bool]) := ⟨118, tt, gam [(11, law53_awakeM), (27, law53_wideM), (28, simulate_CustomersM), (24, slices_Equal_api_Customer_api_CustomerM), (30, simulate_CompareM), (31, slices_ContainsFunc_int_int_32M)], lam [], resDec 118 tt [.tmp 14] [.bool]⟩

theorem law53_SimulateMoreG : CtxOK Try.prog law53_SimulateMoreX := gam_ok (AllM.all (l := [(11, law53_awakeM), (27, law53_wideM), (28, simulate_CustomersM), (24, slices_Equal_api_Customer_api_CustomerM), (30, simulate_CompareM), (31, slices_ContainsFunc_int_int_32M)]) ⟨law53_awake_ok, law53_wide_ok, simulate_Customers_ok, slices_Equal_api_Customer_api_Customer_ok, simulate_Compare_ok, slices_ContainsFunc_int_int_32_ok, trivial⟩)

noncomputable def law53_SimulateMoreM : Mdl := mdlOf (.cons (.d Histogram.ty) (.cons (.d Histogram.ty) (.cons (.d (.int .i64)) (.cons (.d (.int .u8)) (.cons (.d (.int .u8)) (.cons (.d (.int .u8)) (.cons (.d (.int .u8)) .nil))))))) [.bool] (fun (a : (Histogram × Histogram × Int × Int × Int × Int × Int × Unit)) => law53_SimulateMore a.1 a.2.1 a.2.2.1 a.2.2.2.1 a.2.2.2.2.1 a.2.2.2.2.2.1 a.2.2.2.2.2.2.1)

theorem law53_SimulateMore_ok : MdlOK Try.prog 9 law53_SimulateMoreM :=
  fn_ok (c := (bodyOf Try.f9)) Try.func9 (by rfl) (by kernel_rfl) (X := law53_SimulateMoreX) (by kernel_rfl) (rs := [.tmp 14]) (by kernel_rfl) rfl law53_SimulateMoreG fits mixed (ann := .z) (AllS.all (l := []) (by kernel_rfl) trivial) (by decide) (fun a => by kernel_rfl)

/-! casebook/casebookref53.Compare -/

noncomputable def ref53_CompareX : Ctx (RL.den [(.slice (.int .i64)), (.int .i64)]) := ⟨53, tt, gam [(15, ref53_ServeM)], lam [loopSumm (RL.den [(.slice (.int .i64)), (.int .i64)]) ref53_CompareL0I (C := ((List Customer) × (List Customer) × (List Customer))) (S := (Int × (List Int))) (fun (x : (((List Customer) × (List Customer) × (List Customer) × Unit × Int × Unit) × ((List Int) × Unit))) => ((x.1.1, x.1.2.1, x.1.2.2.1), (x.1.2.2.2.2.1, x.2.1))) ref53_CompareL0E (CE := Unit) (E := (List Int)) (fun (c : Unit) (e : (List Int)) => (((), ()), (e, ()))) (fun (c : ((List Customer) × (List Customer) × (List Customer))) => ()) (fun {R} c a nx dn rt => ref53_CompareL0K c.1 c.2.1 c.2.2 a.1 a.2 nx dn rt)], resDec 53 tt [.tmp 6, .tmp 7] [(.slice (.int .i64)), (.int .i64)]⟩

theorem ref53_CompareG : CtxOK Try.prog ref53_CompareX := gam_ok (AllM.all (l := [(15, ref53_ServeM)]) ⟨ref53_Serve_ok, trivial⟩)

theorem ref53_CompareS0 : SummOK Try.prog ref53_CompareX 0 (.block 0 (.loop (subC (bodyOf Try.f33) [true, true, true, true, true, true, false, true, false, false]))) :=
  loop_ok (shI := ref53_CompareL0I) (shE := ref53_CompareL0E) (C := ((List Customer) × (List Customer) × (List Customer))) (S := (Int × (List Int))) (CE := Unit) (E := (List Int)) ref53_CompareG fits mixed (ann := .z) (AllS.all (l := []) (by kernel_rfl) trivial) (mk := (fun (c : ((List Customer) × (List Customer) × (List Customer))) (a : (Int × (List Int))) => ((c.1, c.2.1, c.2.2, (), a.1, ()), (a.2, ())))) (unE := (fun (y : ((Unit × Unit) × ((List Int) × Unit))) => ((), y.2.1))) rfl (fun _ => rfl) (fun _ => rfl) (fun R K D T c a => by kernel_rfl)

noncomputable def ref53_CompareM : Mdl := mdlOf (.cons (.d (.slice Customer.ty)) (.cons (.d (.int .i64)) (.cons (.d (.int .i64)) .nil))) [(.slice (.int .i64)), (.int .i64)] (fun (a : ((List Customer) × Int × Int × Unit)) => ref53_Compare a.1 a.2.1 a.2.2.1)

theorem ref53_Compare_ok : MdlOK Try.prog 33 ref53_CompareM :=
  fn_ok (c := (bodyOf Try.f33)) Try.func33 (by rfl) (by kernel_rfl) (X := ref53_CompareX) (by kernel_rfl) (rs := [.tmp 6, .tmp 7]) (by kernel_rfl) rfl ref53_CompareG fits mixed (ann := (.two .z (.two .z (.two .z (.two .z (.two .z (.two .z (.two (.two .z (.s 0)) .z)))))))) (AllS.all (l := [(0, .block 0 (.loop (subC (bodyOf Try.f33) [true, true, true, true, true, true, false, true, false, false])))]) (by kernel_rfl) ⟨ref53_CompareS0, trivial⟩) (by decide) (fun a => by kernel_rfl)

/-! casebook/simulate.Replicate -/

noncomputable def simulate_ReplicateX : Ctx (RL.den [(.slice (.int .i64)), (.int .i64)]) := ⟨85, tt, gam [(28, simulate_CustomersM), (14, simulate_ServeM)], lam [loopSumm (RL.den [(.slice (.int .i64)), (.int .i64)]) simulate_ReplicateL0I (C := (Int × Int × (List Int) × Int × (List Int) × (List Int) × (List Int) × (List Int))) (S := (Int × (List (List Customer)))) (fun (x : ((Int × Int × Unit × Unit × Unit × (List Int) × Int × Int × Unit) × (((List Int) × (List Int) × Unit) × ((List Int) × (List Int) × Unit) × (List (List Customer)) × Unit))) => ((x.1.1, x.1.2.1, x.1.2.2.2.2.2.1, x.1.2.2.2.2.2.2.1, x.2.1.1, x.2.1.2.1, x.2.2.1.1, x.2.2.1.2.1), (x.1.2.2.2.2.2.2.2.1, x.2.2.2.1))) simulate_ReplicateL0E (CE := Int) (E := (List (List Customer))) (fun (c : Int) (e : (List (List Customer))) => ((c, (), ()), (e, ()))) (fun (c : (Int × Int × (List Int) × Int × (List Int) × (List Int) × (List Int) × (List Int))) => c.1) (fun {R} c a nx dn rt => simulate_ReplicateL0K c.1 c.2.1 c.2.2.1 c.2.2.2.1 c.2.2.2.2.1 c.2.2.2.2.2.1 c.2.2.2.2.2.2.1 c.2.2.2.2.2.2.2 a.1 a.2 nx dn rt),
  loopSumm (RL.den [(.slice (.int .i64)), (.int .i64)]) simulate_ReplicateL1I (C := (Int × Int × (List (List Customer)))) (S := (Int × (List Int))) (fun (x : ((Int × Unit × Unit × Int × Int × Unit) × ((List Int) × (List (List Customer)) × Unit))) => ((x.1.1, x.1.2.2.2.1, x.2.2.1), (x.1.2.2.2.2.1, x.2.1))) simulate_ReplicateL1E (CE := Unit) (E := (List Int)) (fun (c : Unit) (e : (List Int)) => (((), ()), (e, ()))) (fun (c : (Int × Int × (List (List Customer)))) => ()) (fun {R} c a nx dn rt => simulate_ReplicateL1K c.1 c.2.1 c.2.2 a.1 a.2 nx dn rt),
  loopSumm (RL.den [(.slice (.int .i64)), (.int .i64)]) simulate_ReplicateL2I (C := (Int × Int × Int × (List Customer) × Int × (List Int) × (List (List Customer)))) (S := (Int × Int)) (fun (x : ((Int × Unit × Int × Unit × Int × Int × (List Customer) × Int × Int × Unit) × ((List Int) × (List (List Customer)) × Unit))) => ((x.1.1, x.1.2.2.2.2.1, x.1.2.2.2.2.2.1, x.1.2.2.2.2.2.2.1, x.1.2.2.2.2.2.2.2.1, x.2.1, x.2.2.1), (x.1.2.2.1, x.1.2.2.2.2.2.2.2.2.1))) simulate_ReplicateL2E (CE := (Int × Int × Int × (List Int) × (List (List Customer)))) (E := Int) (fun (c : (Int × Int × Int × (List Int) × (List (List Customer)))) (e : Int) => ((c.1, (), e, (), c.2.1, c.2.2.1, ()), (c.2.2.2.1, c.2.2.2.2, ()))) (fun (c : (Int × Int × Int × (List Customer) × Int × (List Int) × (List (List Customer)))) => (c.1, c.2.1, c.2.2.1, c.2.2.2.2.2.1, c.2.2.2.2.2.2)) (fun {R} c a nx dn rt => simulate_ReplicateL2K c.1 c.2.1 c.2.2.1 c.2.2.2.1 c.2.2.2.2.1 c.2.2.2.2.2.1 c.2.2.2.2.2.2 a.1 a.2 nx dn rt)], resDec 85 tt [.tmp 10, .tmp 11] [(.slice (.int .i64)), (.int .i64)]⟩

theorem simulate_ReplicateG : CtxOK Try.prog simulate_ReplicateX := gam_ok (AllM.all (l := [(28, simulate_CustomersM), (14, simulate_ServeM)]) ⟨simulate_Customers_ok, simulate_Serve_ok, trivial⟩)

theorem simulate_ReplicateS2 : SummOK Try.prog simulate_ReplicateX 2 (.block 4 (.loop (subC (bodyOf Try.f34) [true, true, true, true, true, false, true, false, false, true, true, false, false, true, true, true, true, false, true, false, false]))) :=
  loop_ok (shI := simulate_ReplicateL2I) (shE := simulate_ReplicateL2E) (C := (Int × Int × Int × (List Customer) × Int × (List Int) × (List (List Customer)))) (S := (Int × Int)) (CE := (Int × Int × Int × (List Int) × (List (List Customer)))) (E := Int) simulate_ReplicateG fits mixed (ann := .z) (AllS.all (l := []) (by kernel_rfl) trivial) (mk := (fun (c : (Int × Int × Int × (List Customer) × Int × (List Int) × (List (List Customer)))) (a : (Int × Int)) => ((c.1, (), a.1, (), c.2.1, c.2.2.1, c.2.2.2.1, c.2.2.2.2.1, a.2, ()), (c.2.2.2.2.2.1, c.2.2.2.2.2.2, ())))) (unE := (fun (y : ((Int × Unit × Int × Unit × Int × Int × Unit) × ((List Int) × (List (List Customer)) × Unit))) => ((y.1.1, y.1.2.2.2.2.1, y.1.2.2.2.2.2.1, y.2.1, y.2.2.1), y.1.2.2.1))) rfl (fun _ => rfl) (fun _ => rfl) (fun R K D T c a => by kernel_rfl)

theorem simulate_ReplicateS1 : SummOK Try.prog simulate_ReplicateX 1 (.block 2 (.loop (subC (bodyOf Try.f34) [true, true, true, true, true, false, true, false, false]))) :=
  loop_ok (shI := simulate_ReplicateL1I) (shE := simulate_ReplicateL1E) (C := (Int × Int × (List (List Customer)))) (S := (Int × (List Int))) (CE := Unit) (E := (List Int)) simulate_ReplicateG fits mixed (ann := (.two .z (.two .z (.two (.one (.two .z (.two .z (.two .z (.two .z (.two (.two .z (.s 2)) .z)))))) .z)))) (AllS.all (l := [(2, .block 4 (.loop (subC (bodyOf Try.f34) [true, true, true, true, true, false, true, false, false, true, true, false, false, true, true, true, true, false, true, false, false])))]) (by kernel_rfl) ⟨simulate_ReplicateS2, trivial⟩) (mk := (fun (c : (Int × Int × (List (List Customer)))) (a : (Int × (List Int))) => ((c.1, (), (), c.2.1, a.1, ()), (a.2, c.2.2, ())))) (unE := (fun (y : ((Unit × Unit) × ((List Int) × Unit))) => ((), y.2.1))) rfl (fun _ => rfl) (fun _ => rfl) (fun R K D T c a => by kernel_rfl)

theorem simulate_ReplicateS0 : SummOK Try.prog simulate_ReplicateX 0 (.block 0 (.loop (subC (bodyOf Try.f34) [true, true, true, false, true, false, false]))) :=
  loop_ok (shI := simulate_ReplicateL0I) (shE := simulate_ReplicateL0E) (C := (Int × Int × (List Int) × Int × (List Int) × (List Int) × (List Int) × (List Int))) (S := (Int × (List (List Customer)))) (CE := Int) (E := (List (List Customer))) simulate_ReplicateG fits mixed (ann := .z) (AllS.all (l := []) (by kernel_rfl) trivial) (mk := (fun (c : (Int × Int × (List Int) × Int × (List Int) × (List Int) × (List Int) × (List Int))) (a : (Int × (List (List Customer)))) => ((c.1, c.2.1, (), (), (), c.2.2.1, c.2.2.2.1, a.1, ()), ((c.2.2.2.2.1, c.2.2.2.2.2.1, ()), (c.2.2.2.2.2.2.1, c.2.2.2.2.2.2.2, ()), a.2, ())))) (unE := (fun (y : ((Int × Unit × Unit) × ((List (List Customer)) × Unit))) => (y.1.1, y.2.1))) rfl (fun _ => rfl) (fun _ => rfl) (fun R K D T c a => by kernel_rfl)

noncomputable def simulate_ReplicateM : Mdl := mdlOf (.cons (.d Histogram.ty) (.cons (.d Histogram.ty) (.cons (.d (.int .i64)) (.cons (.d (.int .i64)) (.cons (.d (.slice (.int .i64))) .nil))))) [(.slice (.int .i64)), (.int .i64)] (fun (a : (Histogram × Histogram × Int × Int × (List Int) × Unit)) => simulate_Replicate a.1 a.2.1 a.2.2.1 a.2.2.2.1 a.2.2.2.2.1)

theorem simulate_Replicate_ok : MdlOK Try.prog 34 simulate_ReplicateM :=
  fn_ok (c := (bodyOf Try.f34)) Try.func34 (by rfl) (by kernel_rfl) (X := simulate_ReplicateX) (by kernel_rfl) (rs := [.tmp 10, .tmp 11]) (by kernel_rfl) rfl simulate_ReplicateG fits mixed (ann := (.two .z (.two .z (.two .z (.two (.two .z (.s 0)) (.two .z (.two (.two .z (.s 1)) .z))))))) (AllS.all (l := [(0, .block 0 (.loop (subC (bodyOf Try.f34) [true, true, true, false, true, false, false]))), (1, .block 2 (.loop (subC (bodyOf Try.f34) [true, true, true, true, true, false, true, false, false])))]) (by kernel_rfl) ⟨simulate_ReplicateS0, simulate_ReplicateS1, trivial⟩) (by decide) (fun a => by kernel_rfl)

/-! casebook/casebookref53.Replicate -/

noncomputable def ref53_ReplicateX : Ctx (RL.den [(.slice (.int .i64)), (.int .i64)]) := ⟨91, tt, gam [(29, ref53_CustomersM), (15, ref53_ServeM)], lam [loopSumm (RL.den [(.slice (.int .i64)), (.int .i64)]) ref53_ReplicateL0I (C := (Int × Int × (List Int) × (List Int) × (List Int) × (List Int) × (List Int))) (S := (Int × (List (List Customer)))) (fun (x : ((Int × Int × (List Int) × Unit × Unit × Unit × Int × Unit) × (((List Int) × (List Int) × Unit) × ((List Int) × (List Int) × Unit) × (List (List Customer)) × Unit))) => ((x.1.1, x.1.2.1, x.1.2.2.1, x.2.1.1, x.2.1.2.1, x.2.2.1.1, x.2.2.1.2.1), (x.1.2.2.2.2.2.2.1, x.2.2.2.1))) ref53_ReplicateL0E (CE := Int) (E := (List (List Customer))) (fun (c : Int) (e : (List (List Customer))) => ((c, (), ()), (e, ()))) (fun (c : (Int × Int × (List Int) × (List Int) × (List Int) × (List Int) × (List Int))) => c.1) (fun {R} c a nx dn rt => ref53_ReplicateL0K c.1 c.2.1 c.2.2.1 c.2.2.2.1 c.2.2.2.2.1 c.2.2.2.2.2.1 c.2.2.2.2.2.2 a.1 a.2 nx dn rt),
  loopSumm (RL.den [(.slice (.int .i64)), (.int .i64)]) ref53_ReplicateL1I (C := (Int × (List (List Customer)))) (S := (Int × (List Int))) (fun (x : ((Int × Unit × Unit × Int × Unit) × ((List (List Customer)) × (List Int) × Unit))) => ((x.1.1, x.2.1), (x.1.2.2.2.1, x.2.2.1))) ref53_ReplicateL1E (CE := Unit) (E := (List Int)) (fun (c : Unit) (e : (List Int)) => (((), ()), (e, ()))) (fun (c : (Int × (List (List Customer)))) => ()) (fun {R} c a nx dn rt => ref53_ReplicateL1K c.1 c.2 a.1 a.2 nx dn rt),
  loopSumm (RL.den [(.slice (.int .i64)), (.int .i64)]) ref53_ReplicateL2I (C := (Int × Int × (List Customer) × (List (List Customer)) × (List Int))) (S := (Int × Int)) (fun (x : ((Int × Unit × Unit × Int × (List Customer) × Int × Int × Unit) × ((List (List Customer)) × (List Int) × Unit))) => ((x.1.1, x.1.2.2.2.1, x.1.2.2.2.2.1, x.2.1, x.2.2.1), (x.1.2.2.2.2.2.1, x.1.2.2.2.2.2.2.1))) ref53_ReplicateL2E (CE := (Int × Int × (List (List Customer)) × (List Int))) (E := Int) (fun (c : (Int × Int × (List (List Customer)) × (List Int))) (e : Int) => ((c.1, (), (), c.2.1, e, ()), (c.2.2.1, c.2.2.2, ()))) (fun (c : (Int × Int × (List Customer) × (List (List Customer)) × (List Int))) => (c.1, c.2.1, c.2.2.2.1, c.2.2.2.2)) (fun {R} c a nx dn rt => ref53_ReplicateL2K c.1 c.2.1 c.2.2.1 c.2.2.2.1 c.2.2.2.2 a.1 a.2 nx dn rt)], resDec 91 tt [.tmp 10, .tmp 11] [(.slice (.int .i64)), (.int .i64)]⟩

theorem ref53_ReplicateG : CtxOK Try.prog ref53_ReplicateX := gam_ok (AllM.all (l := [(29, ref53_CustomersM), (15, ref53_ServeM)]) ⟨ref53_Customers_ok, ref53_Serve_ok, trivial⟩)

theorem ref53_ReplicateS2 : SummOK Try.prog ref53_ReplicateX 2 (.block 4 (.loop (subC (bodyOf Try.f35) [true, true, true, true, true, false, true, false, false, true, false, false, true, true, true, false, true, false, false]))) :=
  loop_ok (shI := ref53_ReplicateL2I) (shE := ref53_ReplicateL2E) (C := (Int × Int × (List Customer) × (List (List Customer)) × (List Int))) (S := (Int × Int)) (CE := (Int × Int × (List (List Customer)) × (List Int))) (E := Int) ref53_ReplicateG fits mixed (ann := .z) (AllS.all (l := []) (by kernel_rfl) trivial) (mk := (fun (c : (Int × Int × (List Customer) × (List (List Customer)) × (List Int))) (a : (Int × Int)) => ((c.1, (), (), c.2.1, c.2.2.1, a.1, a.2, ()), (c.2.2.2.1, c.2.2.2.2, ())))) (unE := (fun (y : ((Int × Unit × Unit × Int × Int × Unit) × ((List (List Customer)) × (List Int) × Unit))) => ((y.1.1, y.1.2.2.2.1, y.2.1, y.2.2.1), y.1.2.2.2.2.1))) rfl (fun _ => rfl) (fun _ => rfl) (fun R K D T c a => by kernel_rfl)

theorem ref53_ReplicateS1 : SummOK Try.prog ref53_ReplicateX 1 (.block 2 (.loop (subC (bodyOf Try.f35) [true, true, true, true, true, false, true, false, false]))) :=
  loop_ok (shI := ref53_ReplicateL1I) (shE := ref53_ReplicateL1E) (C := (Int × (List (List Customer)))) (S := (Int × (List Int))) (CE := Unit) (E := (List Int)) ref53_ReplicateG fits mixed (ann := (.two .z (.two (.one (.two .z (.two .z (.two .z (.two (.two .z (.s 2)) .z))))) .z))) (AllS.all (l := [(2, .block 4 (.loop (subC (bodyOf Try.f35) [true, true, true, true, true, false, true, false, false, true, false, false, true, true, true, false, true, false, false])))]) (by kernel_rfl) ⟨ref53_ReplicateS2, trivial⟩) (mk := (fun (c : (Int × (List (List Customer)))) (a : (Int × (List Int))) => ((c.1, (), (), a.1, ()), (c.2, a.2, ())))) (unE := (fun (y : ((Unit × Unit) × ((List Int) × Unit))) => ((), y.2.1))) rfl (fun _ => rfl) (fun _ => rfl) (fun R K D T c a => by kernel_rfl)

theorem ref53_ReplicateS0 : SummOK Try.prog ref53_ReplicateX 0 (.block 0 (.loop (subC (bodyOf Try.f35) [true, true, true, false, true, false, false]))) :=
  loop_ok (shI := ref53_ReplicateL0I) (shE := ref53_ReplicateL0E) (C := (Int × Int × (List Int) × (List Int) × (List Int) × (List Int) × (List Int))) (S := (Int × (List (List Customer)))) (CE := Int) (E := (List (List Customer))) ref53_ReplicateG fits mixed (ann := .z) (AllS.all (l := []) (by kernel_rfl) trivial) (mk := (fun (c : (Int × Int × (List Int) × (List Int) × (List Int) × (List Int) × (List Int))) (a : (Int × (List (List Customer)))) => ((c.1, c.2.1, c.2.2.1, (), (), (), a.1, ()), ((c.2.2.2.1, c.2.2.2.2.1, ()), (c.2.2.2.2.2.1, c.2.2.2.2.2.2, ()), a.2, ())))) (unE := (fun (y : ((Int × Unit × Unit) × ((List (List Customer)) × Unit))) => (y.1.1, y.2.1))) rfl (fun _ => rfl) (fun _ => rfl) (fun R K D T c a => by kernel_rfl)

noncomputable def ref53_ReplicateM : Mdl := mdlOf (.cons (.d Histogram.ty) (.cons (.d Histogram.ty) (.cons (.d (.int .i64)) (.cons (.d (.int .i64)) (.cons (.d (.slice (.int .i64))) .nil))))) [(.slice (.int .i64)), (.int .i64)] (fun (a : (Histogram × Histogram × Int × Int × (List Int) × Unit)) => ref53_Replicate a.1 a.2.1 a.2.2.1 a.2.2.2.1 a.2.2.2.2.1)

theorem ref53_Replicate_ok : MdlOK Try.prog 35 ref53_ReplicateM :=
  fn_ok (c := (bodyOf Try.f35)) Try.func35 (by rfl) (by kernel_rfl) (X := ref53_ReplicateX) (by kernel_rfl) (rs := [.tmp 10, .tmp 11]) (by kernel_rfl) rfl ref53_ReplicateG fits mixed (ann := (.two .z (.two .z (.two .z (.two (.two .z (.s 0)) (.two .z (.two (.two .z (.s 1)) .z))))))) (AllS.all (l := [(0, .block 0 (.loop (subC (bodyOf Try.f35) [true, true, true, false, true, false, false]))), (1, .block 2 (.loop (subC (bodyOf Try.f35) [true, true, true, true, true, false, true, false, false])))]) (by kernel_rfl) ⟨ref53_ReplicateS0, ref53_ReplicateS1, trivial⟩) (by decide) (fun a => by kernel_rfl)

/-! casebook/casebooklaw53.SimulateReplicates -/

noncomputable def law53_SimulateReplicatesX : Ctx (RL.den [.bool]) := ⟨120, tt, gam [(11, law53_awakeM), (12, law53_manyM), (27, law53_wideM), (30, simulate_CompareM), (33, ref53_CompareM), (34, simulate_ReplicateM), (35, ref53_ReplicateM), (21, slices_Equal_int_intM)], lam [], resDec 120 tt [.tmp 2] [.bool]⟩

theorem law53_SimulateReplicatesG : CtxOK Try.prog law53_SimulateReplicatesX := gam_ok (AllM.all (l := [(11, law53_awakeM), (12, law53_manyM), (27, law53_wideM), (30, simulate_CompareM), (33, ref53_CompareM), (34, simulate_ReplicateM), (35, ref53_ReplicateM), (21, slices_Equal_int_intM)]) ⟨law53_awake_ok, law53_many_ok, law53_wide_ok, simulate_Compare_ok, ref53_Compare_ok, simulate_Replicate_ok, ref53_Replicate_ok, slices_Equal_int_int_ok, trivial⟩)

noncomputable def law53_SimulateReplicatesM : Mdl := mdlOf (.cons (.d Casebooklaw53Replication.ty) .nil) [.bool] (fun (a : (Casebooklaw53Replication × Unit)) => law53_SimulateReplicates a.1)

theorem law53_SimulateReplicates_ok : MdlOK Try.prog 10 law53_SimulateReplicatesM :=
  fn_ok (c := (bodyOf Try.f10)) Try.func10 (by rfl) (by kernel_rfl) (X := law53_SimulateReplicatesX) (by kernel_rfl) (rs := [.tmp 2]) (by kernel_rfl) rfl law53_SimulateReplicatesG fits mixed (ann := .z) (AllS.all (l := []) (by kernel_rfl) trivial) (by decide) (fun a => by kernel_rfl)

end Go.Proofs.Ytocpeankecaabaa
