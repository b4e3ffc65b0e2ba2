/-
  What the functions compute, as plain functions of Lean. Made by program (mg3.py) out of the translation.
-/
import Derived.Test.YtmlfmeffjodhmaaZ8KE
set_option linter.all false
set_option maxRecDepth 100000
namespace Go.Proofs.Ytmlfmeffjodhmaa
open Go.K Go.M
abbrev Span : Type := Int × Int × Unit
abbrev Span.z : Span := (0, 0, ())
def Span.ty : Ty := .struct (.cons (.int .i64) (.cons (.int .i64) .nil))
abbrev Delegation : Type := ByteArray × ByteArray × ByteArray × Span × Unit
abbrev Delegation.z : Delegation := (⟨#[]⟩, ⟨#[]⟩, ⟨#[]⟩, Span.z, ())
def Delegation.ty : Ty := .struct (.cons .str (.cons .str (.cons .str (.cons Span.ty .nil))))
abbrev Duty : Type := Int × ByteArray × ByteArray × Unit
abbrev Duty.z : Duty := (0, ⟨#[]⟩, ⟨#[]⟩, ())
def Duty.ty : Ty := .struct (.cons (.int .i64) (.cons .str (.cons .str .nil)))
abbrev Person : Type := ByteArray × (List ByteArray) × Unit
abbrev Person.z : Person := (⟨#[]⟩, [], ())
def Person.ty : Ty := .struct (.cons .str (.cons (.slice .str) .nil))
abbrev Org : Type := (List Person) × (List Delegation) × (List Duty) × Unit
abbrev Org.z : Org := ([], [], [], ())
def Org.ty : Ty := .struct (.cons (.slice Person.ty) (.cons (.slice Delegation.ty) (.cons (.slice Duty.ty) .nil)))
abbrev Task : Type := ByteArray × ByteArray × Unit
abbrev Task.z : Task := (⟨#[]⟩, ⟨#[]⟩, ())
def Task.ty : Ty := .struct (.cons .str (.cons .str .nil))
def law46_example  : Option ((List Person) × (List Delegation) × (List Duty)) :=
  some ([(⟨#[97, 110, 110]⟩, [⟨#[98, 111, 115, 115]⟩, ⟨#[99, 108, 101, 114, 107]⟩], ()), (⟨#[98, 111, 98]⟩, [⟨#[99, 108, 101, 114, 107]⟩], ())], [(⟨#[97, 110, 110]⟩, ⟨#[98, 111, 98]⟩, ⟨#[98, 111, 115, 115]⟩, (10, 20, ()), ())], [(1, ⟨#[102, 105, 108, 101]⟩, ⟨#[115, 105, 103, 110]⟩, ())])
def name_letter (c_0 : Int) : Option Bool :=
  bif decide ((65 : Int) ≤ c_0) then
    bif decide (c_0 ≤ 90) then
      some true
    else
      bif decide ((97 : Int) ≤ c_0) then
        some (decide (c_0 ≤ 122))
      else
        some false
  else
    bif decide ((97 : Int) ≤ c_0) then
      some (decide (c_0 ≤ 122))
    else
      some false
def name_part (c_0 : Int) : Option Bool :=
  bnd (name_letter c_0) fun r1 =>
  bif r1 then
    some true
  else
    bif decide ((48 : Int) ≤ c_0) then
      bif decide (c_0 ≤ 57) then
        some true
      else
        bif decide (c_0 = 95) then
          some true
        else
          bif decide (c_0 = 45) then
            some true
          else
            some (decide (c_0 = 46))
    else
      bif decide (c_0 = 95) then
        some true
      else
        bif decide (c_0 = 45) then
          some true
        else
          some (decide (c_0 = 46))
def name_IsNameL0K {R : Type} (s_0 : ByteArray) (v_19 : Int) (v_20 : Int) (nx : Int → Option R) (dn : Unit → Option R) (rt : Bool → Option R) : Option R :=
  bif decide (v_20 < v_19) then
    ckB (ix v_20 (ByteArray.size s_0)) <|
    bnd (name_part (((ByteArray.data s_0).getD (Int.toNat v_20) 0).toNat : Int)) fun r2 =>
    bif (!r2) then
      rt false
    else
      ckB (inR .i64 (v_20 + 1)) <|
      nx (v_20 + 1)
  else
    dn ()
def name_IsNameL0 (s_0 : ByteArray) (v_19 : Int) (s0 : Int) : Option (Unit ⊕ Bool) :=
  loopM (fun a => name_IsNameL0K s_0 v_19 a (fun a' => some (.next a')) (fun e => some (.done e)) (fun r => some (.ret r))) s0
def name_IsNameL0I : Shp := ⟨[(0, .d true .str), (19, .d true (.int .i64)), (20, .d true (.int .i64))], []⟩
def name_IsNameL0E : Shp := ⟨[], []⟩
def name_IsName (s_0 : ByteArray) : Option Bool :=
  bif decide ((ByteArray.size s_0 : Int) < 1) then
    some false
  else
    bif decide ((40 : Int) < (ByteArray.size s_0 : Int)) then
      some false
    else
      ckB (ix 0 (ByteArray.size s_0)) <|
      bnd (name_letter (((ByteArray.data s_0).getD 0 0).toNat : Int)) fun r1 =>
      bif (!r1) then
        some false
      else
        bnd (name_IsNameL0 s_0 (ByteArray.size s_0 : Int) 0) fun oe3 =>
        lk oe3 (fun e3 =>
          some true) (fun r => some r)
def name_AlphabetL0K {R : Type} (l_0 : (List ByteArray)) (v_8 : (List ByteArray)) (v_9 : Int) (v_10 : Int) (nx : Int → Option R) (dn : Unit → Option R) (rt : Bool → Option R) : Option R :=
  bif decide (v_10 < v_9) then
    ckB (ix v_10 v_8.length) <|
    ckB (ix v_10 v_8.length) <|
    bnd (name_IsName (v_8.getD (Int.toNat v_10) ⟨#[]⟩)) fun r1 =>
    bif (!r1) then
      rt false
    else
      bif decide ((0 : Int) < v_10) then
        ckB (inR .i64 (v_10 - 1)) <|
        ckB (ix (v_10 - 1) l_0.length) <|
        ckB (ix (v_10 - 1) l_0.length) <|
        bif (!(Op.bytesLess (ByteArray.toList (l_0.getD (Int.toNat (v_10 - 1)) ⟨#[]⟩)) (ByteArray.toList (v_8.getD (Int.toNat v_10) ⟨#[]⟩)))) then
          rt false
        else
          ckB (inR .i64 (v_10 + 1)) <|
          nx (v_10 + 1)
      else
        ckB (inR .i64 (v_10 + 1)) <|
        nx (v_10 + 1)
  else
    dn ()
def name_AlphabetL0 (l_0 : (List ByteArray)) (v_8 : (List ByteArray)) (v_9 : Int) (s0 : Int) : Option (Unit ⊕ Bool) :=
  loopM (fun a => name_AlphabetL0K l_0 v_8 v_9 a (fun a' => some (.next a')) (fun e => some (.done e)) (fun r => some (.ret r))) s0
def name_AlphabetL0I : Shp := ⟨[(0, .d false (.slice .str)), (8, .d false (.slice .str)), (9, .d true (.int .i64)), (10, .d true (.int .i64))], []⟩
def name_AlphabetL0E : Shp := ⟨[], []⟩
def name_Alphabet (l_0 : (List ByteArray)) : Option Bool :=
  bif decide ((40 : Int) < (l_0.length : Int)) then
    some false
  else
    bnd (name_AlphabetL0 l_0 l_0 (l_0.length : Int) 0) fun oe2 =>
    lk oe2 (fun e2 =>
      some true) (fun r => some r)
def roles_peopleL0K {R : Type} (l_0 : (List Person)) (v_5 : (List Person)) (v_6 : Int) (v_7 : Int) (nx : Int → Option R) (dn : Unit → Option R) (rt : Bool → Option R) : Option R :=
  bif decide (v_7 < v_6) then
    ckB (ix v_7 v_5.length) <|
    ckB (ix v_7 v_5.length) <|
    bnd (name_IsName (v_5.getD (Int.toNat v_7) Person.z).1) fun r1 =>
    bif (!r1) then
      rt false
    else
      bif decide ((0 : Int) < v_7) then
        ckB (inR .i64 (v_7 - 1)) <|
        ckB (ix (v_7 - 1) l_0.length) <|
        ckB (ix (v_7 - 1) l_0.length) <|
        bif (!(Op.bytesLess (ByteArray.toList (l_0.getD (Int.toNat (v_7 - 1)) Person.z).1) (ByteArray.toList (v_5.getD (Int.toNat v_7) Person.z).1))) then
          rt false
        else
          bnd (name_Alphabet (v_5.getD (Int.toNat v_7) Person.z).2.1) fun r2 =>
          bif (!r2) then
            rt false
          else
            ckB (inR .i64 (v_7 + 1)) <|
            nx (v_7 + 1)
      else
        bnd (name_Alphabet (v_5.getD (Int.toNat v_7) Person.z).2.1) fun r3 =>
        bif (!r3) then
          rt false
        else
          ckB (inR .i64 (v_7 + 1)) <|
          nx (v_7 + 1)
  else
    dn ()
def roles_peopleL0 (l_0 : (List Person)) (v_5 : (List Person)) (v_6 : Int) (s0 : Int) : Option (Unit ⊕ Bool) :=
  loopM (fun a => roles_peopleL0K l_0 v_5 v_6 a (fun a' => some (.next a')) (fun e => some (.done e)) (fun r => some (.ret r))) s0
def roles_peopleL0I : Shp := ⟨[(0, .d false (.slice Person.ty)), (5, .d false (.slice Person.ty)), (6, .d true (.int .i64)), (7, .d true (.int .i64))], []⟩
def roles_peopleL0E : Shp := ⟨[(0, .d false (.slice Person.ty))], []⟩
def roles_people (l_0 : (List Person)) : Option Bool :=
  bnd (roles_peopleL0 l_0 l_0 (l_0.length : Int) 0) fun oe4 =>
  lk oe4 (fun e4 =>
    some (decide ((l_0.length : Int) ≤ 40))) (fun r => some r)
def roles_find_1 (p_0 : Person) (p_1 : ByteArray) : Option Bool :=
  ckB (ix 0 1) <|
  some (ByteArray.toList p_0.1 == ByteArray.toList p_1)
def slices_IndexFunc_api_Person_api_Person_82L0K {R : Type} (s_0 : (List Person)) (f_1c0 : ByteArray) (v_7 : Int) (v_8 : Int) (nx : Int → Option R) (dn : Unit → Option R) (rt : Int → Option R) : Option R :=
  bif decide (v_8 < v_7) then
    ckB (ix v_8 s_0.length) <|
    ckB (ix v_8 s_0.length) <|
    bnd (roles_find_1 (s_0.getD (Int.toNat v_8) Person.z) f_1c0) fun r1 =>
    bif r1 then
      rt v_8
    else
      ckB (inR .i64 (v_8 + 1)) <|
      nx (v_8 + 1)
  else
    dn ()
def slices_IndexFunc_api_Person_api_Person_82L0 (s_0 : (List Person)) (f_1c0 : ByteArray) (v_7 : Int) (s0 : Int) : Option (Unit ⊕ Int) :=
  loopM (fun a => slices_IndexFunc_api_Person_api_Person_82L0K s_0 f_1c0 v_7 a (fun a' => some (.next a')) (fun e => some (.done e)) (fun r => some (.ret r))) s0
def slices_IndexFunc_api_Person_api_Person_82L0I : Shp := ⟨[(0, .d false (.slice Person.ty)), (1, .fn 82 (.cons (.rp false .str) .nil)), (7, .d true (.int .i64)), (8, .d true (.int .i64))], []⟩
def slices_IndexFunc_api_Person_api_Person_82L0E : Shp := ⟨[], []⟩
def slices_IndexFunc_api_Person_api_Person_82 (s_0 : (List Person)) (f_1c0 : ByteArray) : Option Int :=
  bnd (slices_IndexFunc_api_Person_api_Person_82L0 s_0 f_1c0 (s_0.length : Int) 0) fun oe2 =>
  lk oe2 (fun e2 =>
    some (-1)) (fun r => some r)
def roles_find (o_0 : Org) (s_1 : ByteArray) : Option Int :=
  bnd (slices_IndexFunc_api_Person_api_Person_82 o_0.1 s_1) fun r1 =>
  some r1
def clock_ValidSpan (s_0 : Span) : Option Bool :=
  bif decide ((0 : Int) ≤ s_0.1) then
    bif decide (s_0.1 < s_0.2.1) then
      some (decide (s_0.2.1 ≤ 1099511627776))
    else
      some false
  else
    some false
def roles_Valid_1 (d_0 : Delegation) (p_1 : Org) : Option Bool :=
  ckB (ix 0 1) <|
  bnd (roles_find p_1 d_0.1) fun r1 =>
  bif decide (r1 < 0) then
    some true
  else
    ckB (ix 0 1) <|
    bnd (roles_find p_1 d_0.2.1) fun r2 =>
    bif decide (r2 < 0) then
      some true
    else
      bif (ByteArray.toList d_0.1 == ByteArray.toList d_0.2.1) then
        some true
      else
        bnd (name_IsName d_0.2.2.1) fun r3 =>
        bif (!r3) then
          some true
        else
          bnd (clock_ValidSpan d_0.2.2.2.1) fun r4 =>
          some (!r4)
def slices_IndexFunc_api_Delegation_api_Delegation_63L0K {R : Type} (s_0 : (List Delegation)) (f_1c0 : Org) (v_7 : Int) (v_8 : Int) (nx : Int → Option R) (dn : Unit → Option R) (rt : Int → Option R) : Option R :=
  bif decide (v_8 < v_7) then
    ckB (ix v_8 s_0.length) <|
    ckB (ix v_8 s_0.length) <|
    bnd (roles_Valid_1 (s_0.getD (Int.toNat v_8) Delegation.z) f_1c0) fun r1 =>
    bif r1 then
      rt v_8
    else
      ckB (inR .i64 (v_8 + 1)) <|
      nx (v_8 + 1)
  else
    dn ()
def slices_IndexFunc_api_Delegation_api_Delegation_63L0 (s_0 : (List Delegation)) (f_1c0 : Org) (v_7 : Int) (s0 : Int) : Option (Unit ⊕ Int) :=
  loopM (fun a => slices_IndexFunc_api_Delegation_api_Delegation_63L0K s_0 f_1c0 v_7 a (fun a' => some (.next a')) (fun e => some (.done e)) (fun r => some (.ret r))) s0
def slices_IndexFunc_api_Delegation_api_Delegation_63L0I : Shp := ⟨[(0, .d false (.slice Delegation.ty)), (1, .fn 63 (.cons (.rp false Org.ty) .nil)), (7, .d true (.int .i64)), (8, .d true (.int .i64))], []⟩
def slices_IndexFunc_api_Delegation_api_Delegation_63L0E : Shp := ⟨[], []⟩
def slices_IndexFunc_api_Delegation_api_Delegation_63 (s_0 : (List Delegation)) (f_1c0 : Org) : Option Int :=
  bnd (slices_IndexFunc_api_Delegation_api_Delegation_63L0 s_0 f_1c0 (s_0.length : Int) 0) fun oe2 =>
  lk oe2 (fun e2 =>
    some (-1)) (fun r => some r)
def slices_ContainsFunc_api_Delegation_api_Delegation_63 (s_0 : (List Delegation)) (f_1c0 : Org) : Option Bool :=
  bnd (slices_IndexFunc_api_Delegation_api_Delegation_63 s_0 f_1c0) fun r1 =>
  some (decide ((0 : Int) ≤ r1))
def roles_Valid_2 (d_0 : Duty) : Option Bool :=
  bif (!decide (d_0.1 = 1)) then
    bif (!decide (d_0.1 = 2)) then
      some true
    else
      bnd (name_IsName d_0.2.1) fun r1 =>
      bif (!r1) then
        some true
      else
        bnd (name_IsName d_0.2.2.1) fun r2 =>
        some (!r2)
  else
    bnd (name_IsName d_0.2.1) fun r3 =>
    bif (!r3) then
      some true
    else
      bnd (name_IsName d_0.2.2.1) fun r4 =>
      some (!r4)
def slices_IndexFunc_api_Duty_api_Duty_66L0K {R : Type} (s_0 : (List Duty)) (v_7 : Int) (v_8 : Int) (nx : Int → Option R) (dn : Unit → Option R) (rt : Int → Option R) : Option R :=
  bif decide (v_8 < v_7) then
    ckB (ix v_8 s_0.length) <|
    ckB (ix v_8 s_0.length) <|
    bnd (roles_Valid_2 (s_0.getD (Int.toNat v_8) Duty.z)) fun r1 =>
    bif r1 then
      rt v_8
    else
      ckB (inR .i64 (v_8 + 1)) <|
      nx (v_8 + 1)
  else
    dn ()
def slices_IndexFunc_api_Duty_api_Duty_66L0 (s_0 : (List Duty)) (v_7 : Int) (s0 : Int) : Option (Unit ⊕ Int) :=
  loopM (fun a => slices_IndexFunc_api_Duty_api_Duty_66L0K s_0 v_7 a (fun a' => some (.next a')) (fun e => some (.done e)) (fun r => some (.ret r))) s0
def slices_IndexFunc_api_Duty_api_Duty_66L0I : Shp := ⟨[(0, .d false (.slice Duty.ty)), (1, .fn 66 .nil), (7, .d true (.int .i64)), (8, .d true (.int .i64))], []⟩
def slices_IndexFunc_api_Duty_api_Duty_66L0E : Shp := ⟨[], []⟩
def slices_IndexFunc_api_Duty_api_Duty_66 (s_0 : (List Duty)) : Option Int :=
  bnd (slices_IndexFunc_api_Duty_api_Duty_66L0 s_0 (s_0.length : Int) 0) fun oe2 =>
  lk oe2 (fun e2 =>
    some (-1)) (fun r => some r)
def slices_ContainsFunc_api_Duty_api_Duty_66 (s_0 : (List Duty)) : Option Bool :=
  bnd (slices_IndexFunc_api_Duty_api_Duty_66 s_0) fun r1 =>
  some (decide ((0 : Int) ≤ r1))
def roles_Valid (o_0 : Org) : Option Bool :=
  bnd (roles_people o_0.1) fun r1 =>
  bif (!r1) then
    some false
  else
    bif decide ((1000 : Int) < (o_0.2.1.length : Int)) then
      some false
    else
      bif decide ((1000 : Int) < (o_0.2.2.1.length : Int)) then
        some false
      else
        bnd (slices_ContainsFunc_api_Delegation_api_Delegation_63 o_0.2.1 o_0) fun r2 =>
        bif (!r2) then
          bnd (slices_ContainsFunc_api_Duty_api_Duty_66 o_0.2.2.1) fun r3 =>
          some (!r3)
        else
          some false
def roles_names_1 (s_0 : ByteArray) : Option Bool :=
  bnd (name_IsName s_0) fun r1 =>
  some (!r1)
def slices_IndexFunc_string_string_85L0K {R : Type} (s_0 : (List ByteArray)) (v_7 : Int) (v_8 : Int) (nx : Int → Option R) (dn : Unit → Option R) (rt : Int → Option R) : Option R :=
  bif decide (v_8 < v_7) then
    ckB (ix v_8 s_0.length) <|
    ckB (ix v_8 s_0.length) <|
    bnd (roles_names_1 (s_0.getD (Int.toNat v_8) ⟨#[]⟩)) fun r1 =>
    bif r1 then
      rt v_8
    else
      ckB (inR .i64 (v_8 + 1)) <|
      nx (v_8 + 1)
  else
    dn ()
def slices_IndexFunc_string_string_85L0 (s_0 : (List ByteArray)) (v_7 : Int) (s0 : Int) : Option (Unit ⊕ Int) :=
  loopM (fun a => slices_IndexFunc_string_string_85L0K s_0 v_7 a (fun a' => some (.next a')) (fun e => some (.done e)) (fun r => some (.ret r))) s0
def slices_IndexFunc_string_string_85L0I : Shp := ⟨[(0, .d false (.slice .str)), (1, .fn 85 .nil), (7, .d true (.int .i64)), (8, .d true (.int .i64))], []⟩
def slices_IndexFunc_string_string_85L0E : Shp := ⟨[], []⟩
def slices_IndexFunc_string_string_85 (s_0 : (List ByteArray)) : Option Int :=
  bnd (slices_IndexFunc_string_string_85L0 s_0 (s_0.length : Int) 0) fun oe2 =>
  lk oe2 (fun e2 =>
    some (-1)) (fun r => some r)
def slices_ContainsFunc_string_string_85 (s_0 : (List ByteArray)) : Option Bool :=
  bnd (slices_IndexFunc_string_string_85 s_0) fun r1 =>
  some (decide ((0 : Int) ≤ r1))
def roles_names (l_0 : (List ByteArray)) : Option Bool :=
  bnd (slices_ContainsFunc_string_string_85 l_0) fun r1 =>
  some (!r1)
def roles_instant (t_0 : Int) : Option Bool :=
  bif decide ((0 : Int) ≤ t_0) then
    some (decide (t_0 ≤ 1099511627776))
  else
    some false
def slices_Index_string_stringL0K {R : Type} (s_0 : (List ByteArray)) (v_1 : ByteArray) (v_7 : Int) (v_8 : Int) (nx : Int → Option R) (dn : Unit → Option R) (rt : Int → Option R) : Option R :=
  bif decide (v_8 < v_7) then
    ckB (ix v_8 s_0.length) <|
    ckB (ix v_8 s_0.length) <|
    bif (ByteArray.toList v_1 == ByteArray.toList (s_0.getD (Int.toNat v_8) ⟨#[]⟩)) then
      rt v_8
    else
      ckB (inR .i64 (v_8 + 1)) <|
      nx (v_8 + 1)
  else
    dn ()
def slices_Index_string_stringL0 (s_0 : (List ByteArray)) (v_1 : ByteArray) (v_7 : Int) (s0 : Int) : Option (Unit ⊕ Int) :=
  loopM (fun a => slices_Index_string_stringL0K s_0 v_1 v_7 a (fun a' => some (.next a')) (fun e => some (.done e)) (fun r => some (.ret r))) s0
def slices_Index_string_stringL0I : Shp := ⟨[(0, .d false (.slice .str)), (1, .d true .str), (7, .d true (.int .i64)), (8, .d true (.int .i64))], []⟩
def slices_Index_string_stringL0E : Shp := ⟨[], []⟩
def slices_Index_string_string (s_0 : (List ByteArray)) (v_1 : ByteArray) : Option Int :=
  bnd (slices_Index_string_stringL0 s_0 v_1 (s_0.length : Int) 0) fun oe1 =>
  lk oe1 (fun e1 =>
    some (-1)) (fun r => some r)
def slices_Contains_string_string (s_0 : (List ByteArray)) (v_1 : ByteArray) : Option Bool :=
  bnd (slices_Index_string_string s_0 v_1) fun r1 =>
  some (decide ((0 : Int) ≤ r1))
def roles_has_1 (s_0 : ByteArray) (p_1 : Org) (p_2 : ByteArray) : Option Bool :=
  ckB (ix 0 1) <|
  ckB (ix 0 1) <|
  bnd (roles_find p_1 s_0) fun r1 =>
  ckB (ix r1 p_1.1.length) <|
  ckB (ix r1 p_1.1.length) <|
  ckB (ix 0 1) <|
  bnd (slices_Contains_string_string (p_1.1.getD (Int.toNat r1) Person.z).2.1 p_2) fun r2 =>
  some r2
def roles_has_2_86 (d_0 : Delegation) (p_1 : ByteArray) (p_3 : Int) (p_2 : ByteArray) (p_4c00 : (List Person)) (p_4c01 : (List Delegation)) (p_4c02 : (List Duty)) : Option (Bool × ByteArray × (List Person) × (List Delegation) × (List Duty)) :=
  ckB (ix 0 1) <|
  bif (ByteArray.toList d_0.2.1 == ByteArray.toList p_1) then
    bif (ByteArray.toList d_0.2.2.1 == ByteArray.toList p_2) then
      ckB (ix 0 1) <|
      bif decide (d_0.2.2.2.1.1 ≤ p_3) then
        ckB (ix 0 1) <|
        bif decide (p_3 < d_0.2.2.2.1.2.1) then
          bnd (roles_has_1 d_0.1 (p_4c00, p_4c01, p_4c02, ()) p_2) fun r1 =>
          some (r1, p_2, p_4c00, p_4c01, p_4c02)
        else
          some (false, p_2, p_4c00, p_4c01, p_4c02)
      else
        some (false, p_2, p_4c00, p_4c01, p_4c02)
    else
      some (false, p_2, p_4c00, p_4c01, p_4c02)
  else
    some (false, p_2, p_4c00, p_4c01, p_4c02)
def slices_IndexFunc_api_Delegation_api_Delegation_87_86L0K {R : Type} (s_0 : (List Delegation)) (f_1c0 : ByteArray) (f_1c2 : Int) (v_7 : Int) (v_8 : Int) (f_1c1 : ByteArray) (f_1c3c00 : (List Person)) (f_1c3c01 : (List Delegation)) (f_1c3c02 : (List Duty)) (nx : (Int × ByteArray × (List Person) × (List Delegation) × (List Duty)) → Option R) (dn : (ByteArray × (List Person) × (List Delegation) × (List Duty)) → Option R) (rt : (Int × ByteArray × (List Person) × (List Delegation) × (List Duty)) → Option R) : Option R :=
  bif decide (v_8 < v_7) then
    ckB (ix v_8 s_0.length) <|
    ckB (ix v_8 s_0.length) <|
    bnd (roles_has_2_86 (s_0.getD (Int.toNat v_8) Delegation.z) f_1c0 f_1c2 f_1c1 f_1c3c00 f_1c3c01 f_1c3c02) fun r1 =>
    bif r1.1 then
      rt (v_8, r1.2.1, r1.2.2.1, r1.2.2.2.1, r1.2.2.2.2)
    else
      ckB (inR .i64 (v_8 + 1)) <|
      nx ((v_8 + 1), r1.2.1, r1.2.2.1, r1.2.2.2.1, r1.2.2.2.2)
  else
    dn (f_1c1, f_1c3c00, f_1c3c01, f_1c3c02)
def slices_IndexFunc_api_Delegation_api_Delegation_87_86L0 (s_0 : (List Delegation)) (f_1c0 : ByteArray) (f_1c2 : Int) (v_7 : Int) (s0 : (Int × ByteArray × (List Person) × (List Delegation) × (List Duty))) : Option ((ByteArray × (List Person) × (List Delegation) × (List Duty)) ⊕ (Int × ByteArray × (List Person) × (List Delegation) × (List Duty))) :=
  loopM (fun a => slices_IndexFunc_api_Delegation_api_Delegation_87_86L0K s_0 f_1c0 f_1c2 v_7 a.1 a.2.1 a.2.2.1 a.2.2.2.1 a.2.2.2.2 (fun a' => some (.next a')) (fun e => some (.done e)) (fun r => some (.ret r))) s0
def slices_IndexFunc_api_Delegation_api_Delegation_87_86L0I : Shp := ⟨[(0, .d false (.slice Delegation.ty)), (1, .fn 87 (.cons (.rp false .str) (.cons (.ptr 0) (.cons (.rp false (.int .i64)) (.cons (.ptr 1) .nil))))), (7, .d true (.int .i64)), (8, .d true (.int .i64))], [.cs 9 1 1 (.cons (.d true .str) .nil), .cs 53 1 1 (.cons (.fn 86 (.cons (.ptr 2) (.cons (.ptr 0) .nil))) .nil), .cs 26 3 1 (.cons (.d true (.slice Person.ty)) (.cons (.d true (.slice Delegation.ty)) (.cons (.d true (.slice Duty.ty)) .nil)))]⟩
def slices_IndexFunc_api_Delegation_api_Delegation_87_86L0E : Shp := ⟨[], [.cs 9 1 1 (.cons (.d true .str) .nil), .cs 53 1 1 (.cons (.fn 86 (.cons (.ptr 2) (.cons (.ptr 0) .nil))) .nil), .cs 26 3 1 (.cons (.d true (.slice Person.ty)) (.cons (.d true (.slice Delegation.ty)) (.cons (.d true (.slice Duty.ty)) .nil)))]⟩
def slices_IndexFunc_api_Delegation_api_Delegation_87_86 (s_0 : (List Delegation)) (f_1c0 : ByteArray) (f_1c2 : Int) (f_1c1 : ByteArray) (f_1c3c00 : (List Person)) (f_1c3c01 : (List Delegation)) (f_1c3c02 : (List Duty)) : Option (Int × ByteArray × (List Person) × (List Delegation) × (List Duty)) :=
  bnd (slices_IndexFunc_api_Delegation_api_Delegation_87_86L0 s_0 f_1c0 f_1c2 (s_0.length : Int) (0, f_1c1, f_1c3c00, f_1c3c01, f_1c3c02)) fun oe2 =>
  lk oe2 (fun e2 =>
    some ((-1), e2.1, e2.2.1, e2.2.2.1, e2.2.2.2)) (fun r => some r)
def slices_ContainsFunc_api_Delegation_api_Delegation_87_86 (s_0 : (List Delegation)) (f_1c0 : ByteArray) (f_1c2 : Int) (f_1c1 : ByteArray) (f_1c3c00 : (List Person)) (f_1c3c01 : (List Delegation)) (f_1c3c02 : (List Duty)) : Option (Bool × ByteArray × (List Person) × (List Delegation) × (List Duty)) :=
  bnd (slices_IndexFunc_api_Delegation_api_Delegation_87_86 s_0 f_1c0 f_1c2 f_1c1 f_1c3c00 f_1c3c01 f_1c3c02) fun r1 =>
  some (decide ((0 : Int) ≤ r1.1), r1.2.1, r1.2.2.1, r1.2.2.2.1, r1.2.2.2.2)
def roles_has (o_0 : Org) (person_1 : ByteArray) (role_2 : ByteArray) (time_3 : Int) : Option Bool :=
  bnd (roles_has_1 person_1 o_0 role_2) fun r1 =>
  bif r1 then
    some true
  else
    bnd (slices_ContainsFunc_api_Delegation_api_Delegation_87_86 o_0.2.1 person_1 time_3 role_2 o_0.1 o_0.2.1 o_0.2.2.1) fun r2 =>
    some r2.1
def roles_Has (o_0 : Org) (person_1 : ByteArray) (role_2 : ByteArray) (time_3 : Int) : Option (Bool × Int) :=
  bnd (roles_Valid o_0) fun r1 =>
  bif (!r1) then
    some (false, 1)
  else
    bnd (roles_names [role_2]) fun r2 =>
    bif (!r2) then
      some (false, 1)
    else
      bnd (roles_instant time_3) fun r3 =>
      bif (!r3) then
        some (false, 2)
      else
        bnd (roles_find o_0 person_1) fun r4 =>
        bif decide (r4 < 0) then
          some (false, 10)
        else
          bnd (roles_has o_0 person_1 role_2 time_3) fun r5 =>
          some (r5, 0)
def roles_past_1 (t_0 : Task) (p_1 : Org) : Option Bool :=
  bnd (name_IsName t_0.1) fun r1 =>
  bif (!r1) then
    some true
  else
    ckB (ix 0 1) <|
    bnd (roles_find p_1 t_0.2.1) fun r2 =>
    some (decide (r2 < 0))
def slices_IndexFunc_api_Task_api_Task_88L0K {R : Type} (s_0 : (List Task)) (f_1c0 : Org) (v_7 : Int) (v_8 : Int) (nx : Int → Option R) (dn : Unit → Option R) (rt : Int → Option R) : Option R :=
  bif decide (v_8 < v_7) then
    ckB (ix v_8 s_0.length) <|
    ckB (ix v_8 s_0.length) <|
    bnd (roles_past_1 (s_0.getD (Int.toNat v_8) Task.z) f_1c0) fun r1 =>
    bif r1 then
      rt v_8
    else
      ckB (inR .i64 (v_8 + 1)) <|
      nx (v_8 + 1)
  else
    dn ()
def slices_IndexFunc_api_Task_api_Task_88L0 (s_0 : (List Task)) (f_1c0 : Org) (v_7 : Int) (s0 : Int) : Option (Unit ⊕ Int) :=
  loopM (fun a => slices_IndexFunc_api_Task_api_Task_88L0K s_0 f_1c0 v_7 a (fun a' => some (.next a')) (fun e => some (.done e)) (fun r => some (.ret r))) s0
def slices_IndexFunc_api_Task_api_Task_88L0I : Shp := ⟨[(0, .d false (.slice Task.ty)), (1, .fn 88 (.cons (.rp false Org.ty) .nil)), (7, .d true (.int .i64)), (8, .d true (.int .i64))], []⟩
def slices_IndexFunc_api_Task_api_Task_88L0E : Shp := ⟨[], []⟩
def slices_IndexFunc_api_Task_api_Task_88 (s_0 : (List Task)) (f_1c0 : Org) : Option Int :=
  bnd (slices_IndexFunc_api_Task_api_Task_88L0 s_0 f_1c0 (s_0.length : Int) 0) fun oe2 =>
  lk oe2 (fun e2 =>
    some (-1)) (fun r => some r)
def slices_ContainsFunc_api_Task_api_Task_88 (s_0 : (List Task)) (f_1c0 : Org) : Option Bool :=
  bnd (slices_IndexFunc_api_Task_api_Task_88 s_0 f_1c0) fun r1 =>
  some (decide ((0 : Int) ≤ r1))
def roles_past (o_0 : Org) (history_1 : (List Task)) : Option Int :=
  bif decide ((1000 : Int) < (history_1.length : Int)) then
    some 5
  else
    bnd (slices_ContainsFunc_api_Task_api_Task_88 history_1 o_0) fun r1 =>
    bif r1 then
      some 8
    else
      some 0
def roles_broken_1_1T0K {R : Type} (v_2 : Duty) (v_3 : ByteArray) (other_6 : Bool) (t_40 : ByteArray) (t_41 : ByteArray) (dn : Unit → Option R) (rt : Bool → Option R) : Option R :=
  ckB (ix 0 1) <|
  bif decide (v_2.1 = 1) then
    bif other_6 then
      ckB (ix 0 1) <|
      rt (ByteArray.toList t_41 == ByteArray.toList v_3)
    else
      rt false
  else
    bif other_6 then
      ckB (ix 0 1) <|
      rt (!(ByteArray.toList t_41 == ByteArray.toList v_3))
    else
      rt false
def roles_broken_1_1T0 (v_2 : Duty) (v_3 : ByteArray) (other_6 : Bool) (t_40 : ByteArray) (t_41 : ByteArray) : Option (Unit ⊕ Bool) :=
  roles_broken_1_1T0K v_2 v_3 other_6 t_40 t_41 (fun e => some (.inl e)) (fun r => some (.inr r))
def roles_broken_1_1T0I : Shp := ⟨[(2, .rp false Duty.ty), (3, .rp false .str), (4, .ptr 0), (6, .d true .bool)], [.cs 50 2 1 (.cons (.d true .str) (.cons (.d true .str) .nil))]⟩
def roles_broken_1_1T0E : Shp := ⟨[], []⟩
def roles_broken_1_1 (t_0 : Task) (p_1 : ByteArray) (p_2 : Duty) (p_3 : ByteArray) : Option Bool :=
  ckB (ix 0 1) <|
  ckB (ix 0 1) <|
  bif (ByteArray.toList p_1 == ByteArray.toList p_2.2.1) then
    ckB (ix 0 1) <|
    bif (ByteArray.toList t_0.1 == ByteArray.toList p_2.2.2.1) then
      bnd (roles_broken_1_1T0 p_2 p_3 true t_0.1 t_0.2.1) fun oe1 =>
      lk oe1 (fun e1 =>
        none) (fun r => some r)
    else
      ckB (ix 0 1) <|
      ckB (ix 0 1) <|
      bif (ByteArray.toList p_1 == ByteArray.toList p_2.2.2.1) then
        ckB (ix 0 1) <|
        bnd (roles_broken_1_1T0 p_2 p_3 (ByteArray.toList t_0.1 == ByteArray.toList p_2.2.1) t_0.1 t_0.2.1) fun oe2 =>
        lk oe2 (fun e2 =>
          none) (fun r => some r)
      else
        bnd (roles_broken_1_1T0 p_2 p_3 false t_0.1 t_0.2.1) fun oe3 =>
        lk oe3 (fun e3 =>
          none) (fun r => some r)
  else
    ckB (ix 0 1) <|
    ckB (ix 0 1) <|
    bif (ByteArray.toList p_1 == ByteArray.toList p_2.2.2.1) then
      ckB (ix 0 1) <|
      bnd (roles_broken_1_1T0 p_2 p_3 (ByteArray.toList t_0.1 == ByteArray.toList p_2.2.1) t_0.1 t_0.2.1) fun oe4 =>
      lk oe4 (fun e4 =>
        none) (fun r => some r)
    else
      bnd (roles_broken_1_1T0 p_2 p_3 false t_0.1 t_0.2.1) fun oe5 =>
      lk oe5 (fun e5 =>
        none) (fun r => some r)
def slices_IndexFunc_api_Task_api_Task_90L0K {R : Type} (s_0 : (List Task)) (f_1c0 : ByteArray) (f_1c1 : Duty) (f_1c2 : ByteArray) (v_7 : Int) (v_8 : Int) (nx : Int → Option R) (dn : Unit → Option R) (rt : Int → Option R) : Option R :=
  bif decide (v_8 < v_7) then
    ckB (ix v_8 s_0.length) <|
    ckB (ix v_8 s_0.length) <|
    bnd (roles_broken_1_1 (s_0.getD (Int.toNat v_8) Task.z) f_1c0 f_1c1 f_1c2) fun r1 =>
    bif r1 then
      rt v_8
    else
      ckB (inR .i64 (v_8 + 1)) <|
      nx (v_8 + 1)
  else
    dn ()
def slices_IndexFunc_api_Task_api_Task_90L0 (s_0 : (List Task)) (f_1c0 : ByteArray) (f_1c1 : Duty) (f_1c2 : ByteArray) (v_7 : Int) (s0 : Int) : Option (Unit ⊕ Int) :=
  loopM (fun a => slices_IndexFunc_api_Task_api_Task_90L0K s_0 f_1c0 f_1c1 f_1c2 v_7 a (fun a' => some (.next a')) (fun e => some (.done e)) (fun r => some (.ret r))) s0
def slices_IndexFunc_api_Task_api_Task_90L0I : Shp := ⟨[(0, .d false (.slice Task.ty)), (1, .fn 90 (.cons (.rp false .str) (.cons (.rp false Duty.ty) (.cons (.rp false .str) .nil)))), (7, .d true (.int .i64)), (8, .d true (.int .i64))], []⟩
def slices_IndexFunc_api_Task_api_Task_90L0E : Shp := ⟨[], []⟩
def slices_IndexFunc_api_Task_api_Task_90 (s_0 : (List Task)) (f_1c0 : ByteArray) (f_1c1 : Duty) (f_1c2 : ByteArray) : Option Int :=
  bnd (slices_IndexFunc_api_Task_api_Task_90L0 s_0 f_1c0 f_1c1 f_1c2 (s_0.length : Int) 0) fun oe2 =>
  lk oe2 (fun e2 =>
    some (-1)) (fun r => some r)
def slices_ContainsFunc_api_Task_api_Task_90 (s_0 : (List Task)) (f_1c0 : ByteArray) (f_1c1 : Duty) (f_1c2 : ByteArray) : Option Bool :=
  bnd (slices_IndexFunc_api_Task_api_Task_90 s_0 f_1c0 f_1c1 f_1c2) fun r1 =>
  some (decide ((0 : Int) ≤ r1))
def roles_broken_1 (d_0 : Duty) (p_1 : (List Task)) (p_2 : ByteArray) (p_3 : ByteArray) : Option Bool :=
  ckB (ix 0 1) <|
  bnd (slices_ContainsFunc_api_Task_api_Task_90 p_1 p_2 d_0 p_3) fun r1 =>
  some r1
def slices_IndexFunc_api_Duty_api_Duty_89L0K {R : Type} (s_0 : (List Duty)) (f_1c0 : (List Task)) (f_1c1 : ByteArray) (f_1c2 : ByteArray) (v_7 : Int) (v_8 : Int) (nx : Int → Option R) (dn : Unit → Option R) (rt : Int → Option R) : Option R :=
  bif decide (v_8 < v_7) then
    ckB (ix v_8 s_0.length) <|
    ckB (ix v_8 s_0.length) <|
    bnd (roles_broken_1 (s_0.getD (Int.toNat v_8) Duty.z) f_1c0 f_1c1 f_1c2) fun r1 =>
    bif r1 then
      rt v_8
    else
      ckB (inR .i64 (v_8 + 1)) <|
      nx (v_8 + 1)
  else
    dn ()
def slices_IndexFunc_api_Duty_api_Duty_89L0 (s_0 : (List Duty)) (f_1c0 : (List Task)) (f_1c1 : ByteArray) (f_1c2 : ByteArray) (v_7 : Int) (s0 : Int) : Option (Unit ⊕ Int) :=
  loopM (fun a => slices_IndexFunc_api_Duty_api_Duty_89L0K s_0 f_1c0 f_1c1 f_1c2 v_7 a (fun a' => some (.next a')) (fun e => some (.done e)) (fun r => some (.ret r))) s0
def slices_IndexFunc_api_Duty_api_Duty_89L0I : Shp := ⟨[(0, .d false (.slice Duty.ty)), (1, .fn 89 (.cons (.rp false (.slice Task.ty)) (.cons (.rp false .str) (.cons (.rp false .str) .nil)))), (7, .d true (.int .i64)), (8, .d true (.int .i64))], []⟩
def slices_IndexFunc_api_Duty_api_Duty_89L0E : Shp := ⟨[], []⟩
def slices_IndexFunc_api_Duty_api_Duty_89 (s_0 : (List Duty)) (f_1c0 : (List Task)) (f_1c1 : ByteArray) (f_1c2 : ByteArray) : Option Int :=
  bnd (slices_IndexFunc_api_Duty_api_Duty_89L0 s_0 f_1c0 f_1c1 f_1c2 (s_0.length : Int) 0) fun oe2 =>
  lk oe2 (fun e2 =>
    some (-1)) (fun r => some r)
def roles_broken (o_0 : Org) (person_1 : ByteArray) (act_2 : ByteArray) (history_3 : (List Task)) : Option Int :=
  bnd (slices_IndexFunc_api_Duty_api_Duty_89 o_0.2.2.1 history_3 act_2 person_1) fun r1 =>
  some r1
def roles_Forbids (o_0 : Org) (person_1 : ByteArray) (act_2 : ByteArray) (history_3 : (List Task)) : Option (Int × Int) :=
  bnd (roles_Valid o_0) fun r1 =>
  bif (!r1) then
    some (0, 1)
  else
    bnd (roles_names [act_2]) fun r2 =>
    bif (!r2) then
      some (0, 1)
    else
      bnd (roles_find o_0 person_1) fun r3 =>
      bif decide (r3 < 0) then
        some (0, 10)
      else
        bnd (roles_past o_0 history_3) fun r4 =>
        bif (!decide (r4 = 0)) then
          some (0, r4)
        else
          bnd (roles_broken o_0 person_1 act_2 history_3) fun r5 =>
          some (r5, 0)
def roles_given (o_0 : Org) (acts_1 : (List ByteArray)) (roles_2 : (List ByteArray)) (time_3 : Int) (history_4 : (List Task)) : Option Int :=
  bnd (roles_Valid o_0) fun r1 =>
  bif (!r1) then
    some 1
  else
    bnd (roles_names acts_1) fun r2 =>
    bif (!r2) then
      some 1
    else
      bnd (roles_names roles_2) fun r3 =>
      bif (!r3) then
        some 1
      else
        bnd (roles_instant time_3) fun r4 =>
        bif (!r4) then
          some 2
        else
          bnd (roles_past o_0 history_4) fun r5 =>
          bif (!decide (r5 = 0)) then
            some r5
          else
            bif (!decide ((acts_1.length : Int) = (roles_2.length : Int))) then
              some 29
            else
              bif decide ((12 : Int) < (acts_1.length : Int)) then
                some 5
              else
                some 0
def roles_may (o_0 : Org) (person_1 : ByteArray) (act_2 : ByteArray) (role_3 : ByteArray) (time_4 : Int) (history_5 : (List Task)) : Option Bool :=
  bnd (roles_has o_0 person_1 role_3 time_4) fun r1 =>
  bif r1 then
    bnd (roles_broken o_0 person_1 act_2 history_5) fun r2 =>
    some (decide (r2 < 0))
  else
    some false
def roles_ableL0K {R : Type} (acts_1 : (List ByteArray)) (roles_2 : (List ByteArray)) (time_3 : Int) (history_4 : (List Task)) (i_12 : Int) (v_19 : Int) (v_20 : Int) (v_24 : (List Person)) (v_25 : Int) (o_50 : (List Person)) (o_51 : (List Delegation)) (o_52 : (List Duty)) (v_26 : Int) (out_11 : (List Int)) (nx : (Int × (List Int)) → Option R) (dn : (List Int) → Option R) (rt : (List Int) → Option R) : Option R :=
  bif decide (v_26 < v_25) then
    ckB (ix v_26 v_24.length) <|
    ckB (ix v_26 v_24.length) <|
    ckB (ix i_12 acts_1.length) <|
    ckB (ix i_12 acts_1.length) <|
    ckB (ix i_12 roles_2.length) <|
    ckB (ix i_12 roles_2.length) <|
    bnd (roles_may (o_50, o_51, o_52, ()) (v_24.getD (Int.toNat v_26) Person.z).1 (acts_1.getD (Int.toNat i_12) ⟨#[]⟩) (roles_2.getD (Int.toNat i_12) ⟨#[]⟩) time_3 history_4) fun r1 =>
    bif r1 then
      ckB (ix i_12 out_11.length) <|
      ckB (ix i_12 out_11.length) <|
      ckB (decide (0 ≤ v_26)) <|
      ckB (ix i_12 out_11.length) <|
      ckB (ix i_12 out_11.length) <|
      ckB (inR .i64 (v_26 + 1)) <|
      nx ((v_26 + 1), (out_11.set (Int.toNat i_12) (bitI .or .u64 (out_11.getD (Int.toNat i_12) 0) (shlI .u64 1 v_26))))
    else
      ckB (inR .i64 (v_26 + 1)) <|
      nx ((v_26 + 1), out_11)
  else
    dn out_11
def roles_ableL0 (acts_1 : (List ByteArray)) (roles_2 : (List ByteArray)) (time_3 : Int) (history_4 : (List Task)) (i_12 : Int) (v_19 : Int) (v_20 : Int) (v_24 : (List Person)) (v_25 : Int) (o_50 : (List Person)) (o_51 : (List Delegation)) (o_52 : (List Duty)) (s0 : (Int × (List Int))) : Option ((List Int) ⊕ (List Int)) :=
  loopM (fun a => roles_ableL0K acts_1 roles_2 time_3 history_4 i_12 v_19 v_20 v_24 v_25 o_50 o_51 o_52 a.1 a.2 (fun a' => some (.next a')) (fun e => some (.done e)) (fun r => some (.ret r))) s0
def roles_ableL0I : Shp := ⟨[(1, .d false (.slice .str)), (2, .d false (.slice .str)), (3, .d true (.int .i64)), (4, .d false (.slice Task.ty)), (5, .ptr 0), (11, .own 1), (12, .d true (.int .i64)), (19, .d true (.int .i64)), (20, .d true (.int .i64)), (24, .d true (.slice Person.ty)), (25, .d true (.int .i64)), (26, .d true (.int .i64))], [.cs 26 3 1 (.cons (.d true (.slice Person.ty)) (.cons (.d true (.slice Delegation.ty)) (.cons (.d true (.slice Duty.ty)) .nil))), .arr 103 (.fz true) [0] (.int .u64)]⟩
def roles_ableL0E : Shp := ⟨[(1, .d false (.slice .str)), (2, .d false (.slice .str)), (3, .d true (.int .i64)), (4, .d false (.slice Task.ty)), (5, .ptr 0), (11, .own 1), (19, .d true (.int .i64)), (20, .d true (.int .i64))], [.cs 26 3 1 (.cons (.d true (.slice Person.ty)) (.cons (.d true (.slice Delegation.ty)) (.cons (.d true (.slice Duty.ty)) .nil))), .arr 103 (.fz true) [0] (.int .u64)]⟩
def roles_ableL1K {R : Type} (acts_1 : (List ByteArray)) (roles_2 : (List ByteArray)) (time_3 : Int) (history_4 : (List Task)) (v_19 : Int) (o_50 : (List Person)) (o_51 : (List Delegation)) (o_52 : (List Duty)) (v_20 : Int) (out_11 : (List Int)) (nx : (Int × (List Int)) → Option R) (dn : (List Int) → Option R) (rt : (List Int) → Option R) : Option R :=
  bif decide (v_20 < v_19) then
    bnd (roles_ableL0 acts_1 roles_2 time_3 history_4 v_20 v_19 v_20 o_50 (o_50.length : Int) o_50 o_51 o_52 (0, out_11)) fun oe2 =>
    lk oe2 (fun e2 =>
      ckB (inR .i64 (v_20 + 1)) <|
      nx ((v_20 + 1), e2)) (fun r => rt r)
  else
    dn out_11
def roles_ableL1 (acts_1 : (List ByteArray)) (roles_2 : (List ByteArray)) (time_3 : Int) (history_4 : (List Task)) (v_19 : Int) (o_50 : (List Person)) (o_51 : (List Delegation)) (o_52 : (List Duty)) (s0 : (Int × (List Int))) : Option ((List Int) ⊕ (List Int)) :=
  loopM (fun a => roles_ableL1K acts_1 roles_2 time_3 history_4 v_19 o_50 o_51 o_52 a.1 a.2 (fun a' => some (.next a')) (fun e => some (.done e)) (fun r => some (.ret r))) s0
def roles_ableL1I : Shp := ⟨[(1, .d false (.slice .str)), (2, .d false (.slice .str)), (3, .d true (.int .i64)), (4, .d false (.slice Task.ty)), (5, .ptr 0), (11, .own 1), (19, .d true (.int .i64)), (20, .d true (.int .i64))], [.cs 26 3 1 (.cons (.d true (.slice Person.ty)) (.cons (.d true (.slice Delegation.ty)) (.cons (.d true (.slice Duty.ty)) .nil))), .arr 103 (.fz true) [0] (.int .u64)]⟩
def roles_ableL1E : Shp := ⟨[(11, .own 0)], [.arr 103 (.fz true) [0] (.int .u64)]⟩
def roles_able (o_0 : Org) (acts_1 : (List ByteArray)) (roles_2 : (List ByteArray)) (time_3 : Int) (history_4 : (List Task)) : Option (List Int) :=
  ckB (mkOk (acts_1.length : Int) (acts_1.length : Int) 8) <|
  bnd (roles_ableL1 acts_1 roles_2 time_3 history_4 (acts_1.length : Int) o_0.1 o_0.2.1 o_0.2.2.1 (0, (List.replicate (Int.toNat (acts_1.length : Int)) (0 : Int)))) fun oe3 =>
  lk oe3 (fun e3 =>
    some e3) (fun r => some r)
def bits_OnesCount64 (x_0 : Int) : Option Int :=
  ckB (decide (0 ≤ (1 : Int))) <|
  ckB (decide (0 ≤ (2 : Int))) <|
  ckB (decide (0 ≤ (4 : Int))) <|
  ckB (decide (0 ≤ (8 : Int))) <|
  ckB (decide (0 ≤ (16 : Int))) <|
  ckB (decide (0 ≤ (32 : Int))) <|
  ckB (inR .i64 (IntKind.wrap .u64 ((IntKind.wrap .u64 ((IntKind.wrap .u64 ((bitI .and .u64 (IntKind.wrap .u64 ((shrI .u64 (IntKind.wrap .u64 ((bitI .and .u64 (shrI .u64 (IntKind.wrap .u64 ((bitI .and .u64 (shrI .u64 x_0 1) 6148914691236517205) + (bitI .and .u64 x_0 6148914691236517205))) 2) 3689348814741910323) + (bitI .and .u64 (IntKind.wrap .u64 ((bitI .and .u64 (shrI .u64 x_0 1) 6148914691236517205) + (bitI .and .u64 x_0 6148914691236517205))) 3689348814741910323))) 4) + (IntKind.wrap .u64 ((bitI .and .u64 (shrI .u64 (IntKind.wrap .u64 ((bitI .and .u64 (shrI .u64 x_0 1) 6148914691236517205) + (bitI .and .u64 x_0 6148914691236517205))) 2) 3689348814741910323) + (bitI .and .u64 (IntKind.wrap .u64 ((bitI .and .u64 (shrI .u64 x_0 1) 6148914691236517205) + (bitI .and .u64 x_0 6148914691236517205))) 3689348814741910323))))) 1085102592571150095) + (shrI .u64 (bitI .and .u64 (IntKind.wrap .u64 ((shrI .u64 (IntKind.wrap .u64 ((bitI .and .u64 (shrI .u64 (IntKind.wrap .u64 ((bitI .and .u64 (shrI .u64 x_0 1) 6148914691236517205) + (bitI .and .u64 x_0 6148914691236517205))) 2) 3689348814741910323) + (bitI .and .u64 (IntKind.wrap .u64 ((bitI .and .u64 (shrI .u64 x_0 1) 6148914691236517205) + (bitI .and .u64 x_0 6148914691236517205))) 3689348814741910323))) 4) + (IntKind.wrap .u64 ((bitI .and .u64 (shrI .u64 (IntKind.wrap .u64 ((bitI .and .u64 (shrI .u64 x_0 1) 6148914691236517205) + (bitI .and .u64 x_0 6148914691236517205))) 2) 3689348814741910323) + (bitI .and .u64 (IntKind.wrap .u64 ((bitI .and .u64 (shrI .u64 x_0 1) 6148914691236517205) + (bitI .and .u64 x_0 6148914691236517205))) 3689348814741910323))))) 1085102592571150095) 8))) + (shrI .u64 (IntKind.wrap .u64 ((bitI .and .u64 (IntKind.wrap .u64 ((shrI .u64 (IntKind.wrap .u64 ((bitI .and .u64 (shrI .u64 (IntKind.wrap .u64 ((bitI .and .u64 (shrI .u64 x_0 1) 6148914691236517205) + (bitI .and .u64 x_0 6148914691236517205))) 2) 3689348814741910323) + (bitI .and .u64 (IntKind.wrap .u64 ((bitI .and .u64 (shrI .u64 x_0 1) 6148914691236517205) + (bitI .and .u64 x_0 6148914691236517205))) 3689348814741910323))) 4) + (IntKind.wrap .u64 ((bitI .and .u64 (shrI .u64 (IntKind.wrap .u64 ((bitI .and .u64 (shrI .u64 x_0 1) 6148914691236517205) + (bitI .and .u64 x_0 6148914691236517205))) 2) 3689348814741910323) + (bitI .and .u64 (IntKind.wrap .u64 ((bitI .and .u64 (shrI .u64 x_0 1) 6148914691236517205) + (bitI .and .u64 x_0 6148914691236517205))) 3689348814741910323))))) 1085102592571150095) + (shrI .u64 (bitI .and .u64 (IntKind.wrap .u64 ((shrI .u64 (IntKind.wrap .u64 ((bitI .and .u64 (shrI .u64 (IntKind.wrap .u64 ((bitI .and .u64 (shrI .u64 x_0 1) 6148914691236517205) + (bitI .and .u64 x_0 6148914691236517205))) 2) 3689348814741910323) + (bitI .and .u64 (IntKind.wrap .u64 ((bitI .and .u64 (shrI .u64 x_0 1) 6148914691236517205) + (bitI .and .u64 x_0 6148914691236517205))) 3689348814741910323))) 4) + (IntKind.wrap .u64 ((bitI .and .u64 (shrI .u64 (IntKind.wrap .u64 ((bitI .and .u64 (shrI .u64 x_0 1) 6148914691236517205) + (bitI .and .u64 x_0 6148914691236517205))) 2) 3689348814741910323) + (bitI .and .u64 (IntKind.wrap .u64 ((bitI .and .u64 (shrI .u64 x_0 1) 6148914691236517205) + (bitI .and .u64 x_0 6148914691236517205))) 3689348814741910323))))) 1085102592571150095) 8))) 16))) + (shrI .u64 (IntKind.wrap .u64 ((IntKind.wrap .u64 ((bitI .and .u64 (IntKind.wrap .u64 ((shrI .u64 (IntKind.wrap .u64 ((bitI .and .u64 (shrI .u64 (IntKind.wrap .u64 ((bitI .and .u64 (shrI .u64 x_0 1) 6148914691236517205) + (bitI .and .u64 x_0 6148914691236517205))) 2) 3689348814741910323) + (bitI .and .u64 (IntKind.wrap .u64 ((bitI .and .u64 (shrI .u64 x_0 1) 6148914691236517205) + (bitI .and .u64 x_0 6148914691236517205))) 3689348814741910323))) 4) + (IntKind.wrap .u64 ((bitI .and .u64 (shrI .u64 (IntKind.wrap .u64 ((bitI .and .u64 (shrI .u64 x_0 1) 6148914691236517205) + (bitI .and .u64 x_0 6148914691236517205))) 2) 3689348814741910323) + (bitI .and .u64 (IntKind.wrap .u64 ((bitI .and .u64 (shrI .u64 x_0 1) 6148914691236517205) + (bitI .and .u64 x_0 6148914691236517205))) 3689348814741910323))))) 1085102592571150095) + (shrI .u64 (bitI .and .u64 (IntKind.wrap .u64 ((shrI .u64 (IntKind.wrap .u64 ((bitI .and .u64 (shrI .u64 (IntKind.wrap .u64 ((bitI .and .u64 (shrI .u64 x_0 1) 6148914691236517205) + (bitI .and .u64 x_0 6148914691236517205))) 2) 3689348814741910323) + (bitI .and .u64 (IntKind.wrap .u64 ((bitI .and .u64 (shrI .u64 x_0 1) 6148914691236517205) + (bitI .and .u64 x_0 6148914691236517205))) 3689348814741910323))) 4) + (IntKind.wrap .u64 ((bitI .and .u64 (shrI .u64 (IntKind.wrap .u64 ((bitI .and .u64 (shrI .u64 x_0 1) 6148914691236517205) + (bitI .and .u64 x_0 6148914691236517205))) 2) 3689348814741910323) + (bitI .and .u64 (IntKind.wrap .u64 ((bitI .and .u64 (shrI .u64 x_0 1) 6148914691236517205) + (bitI .and .u64 x_0 6148914691236517205))) 3689348814741910323))))) 1085102592571150095) 8))) + (shrI .u64 (IntKind.wrap .u64 ((bitI .and .u64 (IntKind.wrap .u64 ((shrI .u64 (IntKind.wrap .u64 ((bitI .and .u64 (shrI .u64 (IntKind.wrap .u64 ((bitI .and .u64 (shrI .u64 x_0 1) 6148914691236517205) + (bitI .and .u64 x_0 6148914691236517205))) 2) 3689348814741910323) + (bitI .and .u64 (IntKind.wrap .u64 ((bitI .and .u64 (shrI .u64 x_0 1) 6148914691236517205) + (bitI .and .u64 x_0 6148914691236517205))) 3689348814741910323))) 4) + (IntKind.wrap .u64 ((bitI .and .u64 (shrI .u64 (IntKind.wrap .u64 ((bitI .and .u64 (shrI .u64 x_0 1) 6148914691236517205) + (bitI .and .u64 x_0 6148914691236517205))) 2) 3689348814741910323) + (bitI .and .u64 (IntKind.wrap .u64 ((bitI .and .u64 (shrI .u64 x_0 1) 6148914691236517205) + (bitI .and .u64 x_0 6148914691236517205))) 3689348814741910323))))) 1085102592571150095) + (shrI .u64 (bitI .and .u64 (IntKind.wrap .u64 ((shrI .u64 (IntKind.wrap .u64 ((bitI .and .u64 (shrI .u64 (IntKind.wrap .u64 ((bitI .and .u64 (shrI .u64 x_0 1) 6148914691236517205) + (bitI .and .u64 x_0 6148914691236517205))) 2) 3689348814741910323) + (bitI .and .u64 (IntKind.wrap .u64 ((bitI .and .u64 (shrI .u64 x_0 1) 6148914691236517205) + (bitI .and .u64 x_0 6148914691236517205))) 3689348814741910323))) 4) + (IntKind.wrap .u64 ((bitI .and .u64 (shrI .u64 (IntKind.wrap .u64 ((bitI .and .u64 (shrI .u64 x_0 1) 6148914691236517205) + (bitI .and .u64 x_0 6148914691236517205))) 2) 3689348814741910323) + (bitI .and .u64 (IntKind.wrap .u64 ((bitI .and .u64 (shrI .u64 x_0 1) 6148914691236517205) + (bitI .and .u64 x_0 6148914691236517205))) 3689348814741910323))))) 1085102592571150095) 8))) 16))) 32)))) <|
  some (bitI .and .i64 (IntKind.wrap .u64 ((IntKind.wrap .u64 ((IntKind.wrap .u64 ((bitI .and .u64 (IntKind.wrap .u64 ((shrI .u64 (IntKind.wrap .u64 ((bitI .and .u64 (shrI .u64 (IntKind.wrap .u64 ((bitI .and .u64 (shrI .u64 x_0 1) 6148914691236517205) + (bitI .and .u64 x_0 6148914691236517205))) 2) 3689348814741910323) + (bitI .and .u64 (IntKind.wrap .u64 ((bitI .and .u64 (shrI .u64 x_0 1) 6148914691236517205) + (bitI .and .u64 x_0 6148914691236517205))) 3689348814741910323))) 4) + (IntKind.wrap .u64 ((bitI .and .u64 (shrI .u64 (IntKind.wrap .u64 ((bitI .and .u64 (shrI .u64 x_0 1) 6148914691236517205) + (bitI .and .u64 x_0 6148914691236517205))) 2) 3689348814741910323) + (bitI .and .u64 (IntKind.wrap .u64 ((bitI .and .u64 (shrI .u64 x_0 1) 6148914691236517205) + (bitI .and .u64 x_0 6148914691236517205))) 3689348814741910323))))) 1085102592571150095) + (shrI .u64 (bitI .and .u64 (IntKind.wrap .u64 ((shrI .u64 (IntKind.wrap .u64 ((bitI .and .u64 (shrI .u64 (IntKind.wrap .u64 ((bitI .and .u64 (shrI .u64 x_0 1) 6148914691236517205) + (bitI .and .u64 x_0 6148914691236517205))) 2) 3689348814741910323) + (bitI .and .u64 (IntKind.wrap .u64 ((bitI .and .u64 (shrI .u64 x_0 1) 6148914691236517205) + (bitI .and .u64 x_0 6148914691236517205))) 3689348814741910323))) 4) + (IntKind.wrap .u64 ((bitI .and .u64 (shrI .u64 (IntKind.wrap .u64 ((bitI .and .u64 (shrI .u64 x_0 1) 6148914691236517205) + (bitI .and .u64 x_0 6148914691236517205))) 2) 3689348814741910323) + (bitI .and .u64 (IntKind.wrap .u64 ((bitI .and .u64 (shrI .u64 x_0 1) 6148914691236517205) + (bitI .and .u64 x_0 6148914691236517205))) 3689348814741910323))))) 1085102592571150095) 8))) + (shrI .u64 (IntKind.wrap .u64 ((bitI .and .u64 (IntKind.wrap .u64 ((shrI .u64 (IntKind.wrap .u64 ((bitI .and .u64 (shrI .u64 (IntKind.wrap .u64 ((bitI .and .u64 (shrI .u64 x_0 1) 6148914691236517205) + (bitI .and .u64 x_0 6148914691236517205))) 2) 3689348814741910323) + (bitI .and .u64 (IntKind.wrap .u64 ((bitI .and .u64 (shrI .u64 x_0 1) 6148914691236517205) + (bitI .and .u64 x_0 6148914691236517205))) 3689348814741910323))) 4) + (IntKind.wrap .u64 ((bitI .and .u64 (shrI .u64 (IntKind.wrap .u64 ((bitI .and .u64 (shrI .u64 x_0 1) 6148914691236517205) + (bitI .and .u64 x_0 6148914691236517205))) 2) 3689348814741910323) + (bitI .and .u64 (IntKind.wrap .u64 ((bitI .and .u64 (shrI .u64 x_0 1) 6148914691236517205) + (bitI .and .u64 x_0 6148914691236517205))) 3689348814741910323))))) 1085102592571150095) + (shrI .u64 (bitI .and .u64 (IntKind.wrap .u64 ((shrI .u64 (IntKind.wrap .u64 ((bitI .and .u64 (shrI .u64 (IntKind.wrap .u64 ((bitI .and .u64 (shrI .u64 x_0 1) 6148914691236517205) + (bitI .and .u64 x_0 6148914691236517205))) 2) 3689348814741910323) + (bitI .and .u64 (IntKind.wrap .u64 ((bitI .and .u64 (shrI .u64 x_0 1) 6148914691236517205) + (bitI .and .u64 x_0 6148914691236517205))) 3689348814741910323))) 4) + (IntKind.wrap .u64 ((bitI .and .u64 (shrI .u64 (IntKind.wrap .u64 ((bitI .and .u64 (shrI .u64 x_0 1) 6148914691236517205) + (bitI .and .u64 x_0 6148914691236517205))) 2) 3689348814741910323) + (bitI .and .u64 (IntKind.wrap .u64 ((bitI .and .u64 (shrI .u64 x_0 1) 6148914691236517205) + (bitI .and .u64 x_0 6148914691236517205))) 3689348814741910323))))) 1085102592571150095) 8))) 16))) + (shrI .u64 (IntKind.wrap .u64 ((IntKind.wrap .u64 ((bitI .and .u64 (IntKind.wrap .u64 ((shrI .u64 (IntKind.wrap .u64 ((bitI .and .u64 (shrI .u64 (IntKind.wrap .u64 ((bitI .and .u64 (shrI .u64 x_0 1) 6148914691236517205) + (bitI .and .u64 x_0 6148914691236517205))) 2) 3689348814741910323) + (bitI .and .u64 (IntKind.wrap .u64 ((bitI .and .u64 (shrI .u64 x_0 1) 6148914691236517205) + (bitI .and .u64 x_0 6148914691236517205))) 3689348814741910323))) 4) + (IntKind.wrap .u64 ((bitI .and .u64 (shrI .u64 (IntKind.wrap .u64 ((bitI .and .u64 (shrI .u64 x_0 1) 6148914691236517205) + (bitI .and .u64 x_0 6148914691236517205))) 2) 3689348814741910323) + (bitI .and .u64 (IntKind.wrap .u64 ((bitI .and .u64 (shrI .u64 x_0 1) 6148914691236517205) + (bitI .and .u64 x_0 6148914691236517205))) 3689348814741910323))))) 1085102592571150095) + (shrI .u64 (bitI .and .u64 (IntKind.wrap .u64 ((shrI .u64 (IntKind.wrap .u64 ((bitI .and .u64 (shrI .u64 (IntKind.wrap .u64 ((bitI .and .u64 (shrI .u64 x_0 1) 6148914691236517205) + (bitI .and .u64 x_0 6148914691236517205))) 2) 3689348814741910323) + (bitI .and .u64 (IntKind.wrap .u64 ((bitI .and .u64 (shrI .u64 x_0 1) 6148914691236517205) + (bitI .and .u64 x_0 6148914691236517205))) 3689348814741910323))) 4) + (IntKind.wrap .u64 ((bitI .and .u64 (shrI .u64 (IntKind.wrap .u64 ((bitI .and .u64 (shrI .u64 x_0 1) 6148914691236517205) + (bitI .and .u64 x_0 6148914691236517205))) 2) 3689348814741910323) + (bitI .and .u64 (IntKind.wrap .u64 ((bitI .and .u64 (shrI .u64 x_0 1) 6148914691236517205) + (bitI .and .u64 x_0 6148914691236517205))) 3689348814741910323))))) 1085102592571150095) 8))) + (shrI .u64 (IntKind.wrap .u64 ((bitI .and .u64 (IntKind.wrap .u64 ((shrI .u64 (IntKind.wrap .u64 ((bitI .and .u64 (shrI .u64 (IntKind.wrap .u64 ((bitI .and .u64 (shrI .u64 x_0 1) 6148914691236517205) + (bitI .and .u64 x_0 6148914691236517205))) 2) 3689348814741910323) + (bitI .and .u64 (IntKind.wrap .u64 ((bitI .and .u64 (shrI .u64 x_0 1) 6148914691236517205) + (bitI .and .u64 x_0 6148914691236517205))) 3689348814741910323))) 4) + (IntKind.wrap .u64 ((bitI .and .u64 (shrI .u64 (IntKind.wrap .u64 ((bitI .and .u64 (shrI .u64 x_0 1) 6148914691236517205) + (bitI .and .u64 x_0 6148914691236517205))) 2) 3689348814741910323) + (bitI .and .u64 (IntKind.wrap .u64 ((bitI .and .u64 (shrI .u64 x_0 1) 6148914691236517205) + (bitI .and .u64 x_0 6148914691236517205))) 3689348814741910323))))) 1085102592571150095) + (shrI .u64 (bitI .and .u64 (IntKind.wrap .u64 ((shrI .u64 (IntKind.wrap .u64 ((bitI .and .u64 (shrI .u64 (IntKind.wrap .u64 ((bitI .and .u64 (shrI .u64 x_0 1) 6148914691236517205) + (bitI .and .u64 x_0 6148914691236517205))) 2) 3689348814741910323) + (bitI .and .u64 (IntKind.wrap .u64 ((bitI .and .u64 (shrI .u64 x_0 1) 6148914691236517205) + (bitI .and .u64 x_0 6148914691236517205))) 3689348814741910323))) 4) + (IntKind.wrap .u64 ((bitI .and .u64 (shrI .u64 (IntKind.wrap .u64 ((bitI .and .u64 (shrI .u64 x_0 1) 6148914691236517205) + (bitI .and .u64 x_0 6148914691236517205))) 2) 3689348814741910323) + (bitI .and .u64 (IntKind.wrap .u64 ((bitI .and .u64 (shrI .u64 x_0 1) 6148914691236517205) + (bitI .and .u64 x_0 6148914691236517205))) 3689348814741910323))))) 1085102592571150095) 8))) 16))) 32))) 127)
def cmp_isNaN_int (x_0 : Int) : Option Bool :=
  some (!decide (x_0 = x_0))
def cmp_Compare_int (x_0 : Int) (y_1 : Int) : Option Int :=
  bnd (cmp_isNaN_int x_0) fun r1 =>
  bnd (cmp_isNaN_int y_1) fun r2 =>
  bif r1 then
    bif r2 then
      some 0
    else
      some (-1)
  else
    bif r2 then
      some 1
    else
      bif decide (x_0 < y_1) then
        some (-1)
      else
        bif decide (y_1 < x_0) then
          some 1
        else
          some 0
def slices_Compare_int_intL0K {R : Type} (s1_0 : (List Int)) (s2_1 : (List Int)) (v_9 : (List Int)) (v_10 : Int) (v_11 : Int) (nx : Int → Option R) (dn : Unit → Option R) (rt : Int → Option R) : Option R :=
  bif decide (v_11 < v_10) then
    ckB (ix v_11 v_9.length) <|
    ckB (ix v_11 v_9.length) <|
    bif decide ((s2_1.length : Int) ≤ v_11) then
      rt 1
    else
      ckB (ix v_11 s2_1.length) <|
      ckB (ix v_11 s2_1.length) <|
      bnd (cmp_Compare_int (v_9.getD (Int.toNat v_11) 0) (s2_1.getD (Int.toNat v_11) 0)) fun r1 =>
      bif (!decide (r1 = 0)) then
        rt r1
      else
        ckB (inR .i64 (v_11 + 1)) <|
        nx (v_11 + 1)
  else
    dn ()
def slices_Compare_int_intL0 (s1_0 : (List Int)) (s2_1 : (List Int)) (v_9 : (List Int)) (v_10 : Int) (s0 : Int) : Option (Unit ⊕ Int) :=
  loopM (fun a => slices_Compare_int_intL0K s1_0 s2_1 v_9 v_10 a (fun a' => some (.next a')) (fun e => some (.done e)) (fun r => some (.ret r))) s0
def slices_Compare_int_intL0I : Shp := ⟨[(0, .d false (.slice (.int .i64))), (1, .d false (.slice (.int .i64))), (9, .d false (.slice (.int .i64))), (10, .d true (.int .i64)), (11, .d true (.int .i64))], []⟩
def slices_Compare_int_intL0E : Shp := ⟨[(0, .d false (.slice (.int .i64))), (1, .d false (.slice (.int .i64)))], []⟩
def slices_Compare_int_int (s1_0 : (List Int)) (s2_1 : (List Int)) : Option Int :=
  bnd (slices_Compare_int_intL0 s1_0 s2_1 s1_0 (s1_0.length : Int) 0) fun oe2 =>
  lk oe2 (fun e2 =>
    bif decide ((s1_0.length : Int) < (s2_1.length : Int)) then
      some (-1)
    else
      some 0) (fun r => some r)
def roles_BlockingL0K {R : Type} (can_13 : (List Int)) (set_15 : Int) (v_42 : Int) (best_14 : (List Int)) (all_17 : Int) (v_43 : Int) (l_16 : (List Int)) (nx : (Int × Int × (List Int)) → Option R) (dn : (Int × (List Int)) → Option R) (rt : (Int × (List Int)) → Option R) : Option R :=
  bif decide (v_43 < v_42) then
    ckB (decide (0 ≤ v_43)) <|
    bif decide ((bitI .and .i64 (shrI .i64 set_15 v_43) 1) = 1) then
      ckB (room (l_16.length + 1) 8) <|
      ckB (ix v_43 can_13.length) <|
      ckB (ix v_43 can_13.length) <|
      ckB (inR .i64 (v_43 + 1)) <|
      nx ((bitI .or .u64 all_17 (can_13.getD (Int.toNat v_43) 0)), (v_43 + 1), (l_16 ++ [v_43]))
    else
      ckB (inR .i64 (v_43 + 1)) <|
      nx (all_17, (v_43 + 1), l_16)
  else
    dn (all_17, l_16)
def roles_BlockingL0 (can_13 : (List Int)) (set_15 : Int) (v_42 : Int) (best_14 : (List Int)) (s0 : (Int × Int × (List Int))) : Option ((Int × (List Int)) ⊕ (Int × (List Int))) :=
  loopM (fun a => roles_BlockingL0K can_13 set_15 v_42 best_14 a.1 a.2.1 a.2.2 (fun a' => some (.next a')) (fun e => some (.done e)) (fun r => some (.ret r))) s0
def roles_BlockingL0I : Shp := ⟨[(13, .d true (.slice (.int .u64))), (14, .nl false (.own 0)), (15, .d true (.int .i64)), (16, .nl false (.own 1)), (17, .d true (.int .u64)), (42, .d true (.int .i64)), (43, .d true (.int .i64))], [.arr 3 (.fz true) [0] (.int .i64), .arr 3 (.fz true) [0] (.int .i64)]⟩
def roles_BlockingL0E : Shp := ⟨[(13, .d true (.slice (.int .u64))), (14, .nl false (.own 0)), (15, .d true (.int .i64)), (16, .nl false (.own 1)), (17, .d true (.int .u64))], [.arr 3 (.fz true) [0] (.int .i64), .arr 3 (.fz true) [0] (.int .i64)]⟩
def roles_BlockingL1K {R : Type} (can_13 : (List Int)) (set_15 : Int) (best_14 : (List Int)) (nx : (Int × (List Int)) → Option R) (dn : (List Int) → Option R) (rt : (Int × (List Int)) → Option R) : Option R :=
  ckB (decide (0 ≤ (can_13.length : Int))) <|
  bif decide (set_15 < (shlI .i64 1 (can_13.length : Int))) then
    bnd (roles_BlockingL0 can_13 set_15 (can_13.length : Int) best_14 (0, 0, [])) fun oe3 =>
    lk oe3 (fun e3 =>
      bnd (bits_OnesCount64 e3.1) fun r4 =>
      bif decide ((e3.2.length : Int) ≤ r4) then
        ckB (inR .i64 (set_15 + 1)) <|
        nx ((set_15 + 1), best_14)
      else
        bif decide ((best_14.length : Int) = 0) then
          ckB (inR .i64 (set_15 + 1)) <|
          nx ((set_15 + 1), e3.2)
        else
          bif decide ((e3.2.length : Int) < (best_14.length : Int)) then
            ckB (inR .i64 (set_15 + 1)) <|
            nx ((set_15 + 1), e3.2)
          else
            bif decide ((e3.2.length : Int) = (best_14.length : Int)) then
              bnd (slices_Compare_int_int e3.2 best_14) fun r5 =>
              bif decide (r5 < 0) then
                ckB (inR .i64 (set_15 + 1)) <|
                nx ((set_15 + 1), e3.2)
              else
                ckB (inR .i64 (set_15 + 1)) <|
                nx ((set_15 + 1), best_14)
            else
              ckB (inR .i64 (set_15 + 1)) <|
              nx ((set_15 + 1), best_14)) (fun r => rt r)
  else
    dn best_14
def roles_BlockingL1 (can_13 : (List Int)) (s0 : (Int × (List Int))) : Option ((List Int) ⊕ (Int × (List Int))) :=
  loopM (fun a => roles_BlockingL1K can_13 a.1 a.2 (fun a' => some (.next a')) (fun e => some (.done e)) (fun r => some (.ret r))) s0
def roles_BlockingL1I : Shp := ⟨[(13, .d true (.slice (.int .u64))), (14, .nl false (.own 0)), (15, .d true (.int .i64))], [.arr 3 (.fz true) [0] (.int .i64)]⟩
def roles_BlockingL1E : Shp := ⟨[(14, .nl false (.own 0))], [.arr 3 (.fz true) [0] (.int .i64)]⟩
def roles_Blocking (o_0 : Org) (acts_1 : (List ByteArray)) (roles_2 : (List ByteArray)) (time_3 : Int) (history_4 : (List Task)) : Option (Int × (List Int)) :=
  bnd (roles_given o_0 acts_1 roles_2 time_3 history_4) fun r1 =>
  bif (!decide (r1 = 0)) then
    some (r1, [])
  else
    bnd (roles_able o_0 acts_1 roles_2 time_3 history_4) fun r2 =>
    bnd (roles_BlockingL1 r2 (1, [])) fun oe6 =>
    lk oe6 (fun e6 =>
      bif decide ((e6.length : Int) = 0) then
        some (10, [])
      else
        some (0, e6)) (fun r => some r)
def slices_Equal_int_intL0K {R : Type} (s1_0 : (List Int)) (s2_1 : (List Int)) (v_12 : Int) (v_13 : Int) (nx : Int → Option R) (dn : Unit → Option R) (rt : Bool → Option R) : Option R :=
  bif decide (v_13 < v_12) then
    ckB (ix v_13 s1_0.length) <|
    ckB (ix v_13 s1_0.length) <|
    ckB (ix v_13 s2_1.length) <|
    ckB (ix v_13 s2_1.length) <|
    bif (!decide ((s1_0.getD (Int.toNat v_13) 0) = (s2_1.getD (Int.toNat v_13) 0))) then
      rt false
    else
      ckB (inR .i64 (v_13 + 1)) <|
      nx (v_13 + 1)
  else
    dn ()
def slices_Equal_int_intL0 (s1_0 : (List Int)) (s2_1 : (List Int)) (v_12 : Int) (s0 : Int) : Option (Unit ⊕ Bool) :=
  loopM (fun a => slices_Equal_int_intL0K s1_0 s2_1 v_12 a (fun a' => some (.next a')) (fun e => some (.done e)) (fun r => some (.ret r))) s0
def slices_Equal_int_intL0I : Shp := ⟨[(0, .d false (.slice (.int .i64))), (1, .d false (.slice (.int .i64))), (12, .d true (.int .i64)), (13, .d true (.int .i64))], []⟩
def slices_Equal_int_intL0E : Shp := ⟨[], []⟩
def slices_Equal_int_int (s1_0 : (List Int)) (s2_1 : (List Int)) : Option Bool :=
  bif (!decide ((s1_0.length : Int) = (s2_1.length : Int))) then
    some false
  else
    bnd (slices_Equal_int_intL0 s1_0 s2_1 (s1_0.length : Int) 0) fun oe1 =>
    lk oe1 (fun e1 =>
      some true) (fun r => some r)
def law46_awake  : Option Bool :=
  bnd (law46_example) fun r1 =>
  bnd (roles_Has (r1.1, r1.2.1, r1.2.2, ()) ⟨#[98, 111, 98]⟩ ⟨#[98, 111, 115, 115]⟩ 10) fun r2 =>
  bnd (law46_example) fun r3 =>
  bnd (roles_Has (r3.1, r3.2.1, r3.2.2, ()) ⟨#[98, 111, 98]⟩ ⟨#[98, 111, 115, 115]⟩ 20) fun r4 =>
  bnd (law46_example) fun r5 =>
  bnd (roles_Forbids (r5.1, r5.2.1, r5.2.2, ()) ⟨#[97, 110, 110]⟩ ⟨#[115, 105, 103, 110]⟩ [(⟨#[102, 105, 108, 101]⟩, ⟨#[97, 110, 110]⟩, ())]) fun r6 =>
  bnd (law46_example) fun r7 =>
  bnd (roles_Blocking (r7.1, r7.2.1, r7.2.2, ()) [⟨#[115, 105, 103, 110]⟩, ⟨#[115, 105, 103, 110]⟩] [⟨#[98, 111, 115, 115]⟩, ⟨#[98, 111, 115, 115]⟩] 5 []) fun r8 =>
  bif r2.1 then
    bif decide (r2.2 = 0) then
      bif (!r4.1) then
        bif decide (r4.2 = 0) then
          bif decide (r6.1 = 0) then
            bif decide (r6.2 = 0) then
              bnd (slices_Equal_int_int r8.2 [0, 1]) fun r9 =>
              bif r9 then
                some (decide (r8.1 = 0))
              else
                some false
            else
              some false
          else
            some false
        else
          some false
      else
        some false
    else
      some false
  else
    some false
def law46_words_1 (s_0 : ByteArray) : Option Bool :=
  some (decide ((100 : Int) < (ByteArray.size s_0 : Int)))
def slices_IndexFunc_string_string_42L0K {R : Type} (s_0 : (List ByteArray)) (v_7 : Int) (v_8 : Int) (nx : Int → Option R) (dn : Unit → Option R) (rt : Int → Option R) : Option R :=
  bif decide (v_8 < v_7) then
    ckB (ix v_8 s_0.length) <|
    ckB (ix v_8 s_0.length) <|
    bnd (law46_words_1 (s_0.getD (Int.toNat v_8) ⟨#[]⟩)) fun r1 =>
    bif r1 then
      rt v_8
    else
      ckB (inR .i64 (v_8 + 1)) <|
      nx (v_8 + 1)
  else
    dn ()
def slices_IndexFunc_string_string_42L0 (s_0 : (List ByteArray)) (v_7 : Int) (s0 : Int) : Option (Unit ⊕ Int) :=
  loopM (fun a => slices_IndexFunc_string_string_42L0K s_0 v_7 a (fun a' => some (.next a')) (fun e => some (.done e)) (fun r => some (.ret r))) s0
def slices_IndexFunc_string_string_42L0I : Shp := ⟨[(0, .d false (.slice .str)), (1, .fn 42 .nil), (7, .d true (.int .i64)), (8, .d true (.int .i64))], []⟩
def slices_IndexFunc_string_string_42L0E : Shp := ⟨[], []⟩
def slices_IndexFunc_string_string_42 (s_0 : (List ByteArray)) : Option Int :=
  bnd (slices_IndexFunc_string_string_42L0 s_0 (s_0.length : Int) 0) fun oe2 =>
  lk oe2 (fun e2 =>
    some (-1)) (fun r => some r)
def slices_ContainsFunc_string_string_42 (s_0 : (List ByteArray)) : Option Bool :=
  bnd (slices_IndexFunc_string_string_42 s_0) fun r1 =>
  some (decide ((0 : Int) ≤ r1))
def law46_words (l_0 : (List ByteArray)) : Option Bool :=
  bif decide ((l_0.length : Int) ≤ 50) then
    bnd (slices_ContainsFunc_string_string_42 l_0) fun r1 =>
    some (!r1)
  else
    some false
def law46_few_1 (p_0 : Person) : Option Bool :=
  bnd (law46_words p_0.2.1) fun r1 =>
  bif (!r1) then
    some true
  else
    some (decide ((100 : Int) < (ByteArray.size p_0.1 : Int)))
def slices_IndexFunc_api_Person_api_Person_36L0K {R : Type} (s_0 : (List Person)) (v_7 : Int) (v_8 : Int) (nx : Int → Option R) (dn : Unit → Option R) (rt : Int → Option R) : Option R :=
  bif decide (v_8 < v_7) then
    ckB (ix v_8 s_0.length) <|
    ckB (ix v_8 s_0.length) <|
    bnd (law46_few_1 (s_0.getD (Int.toNat v_8) Person.z)) fun r1 =>
    bif r1 then
      rt v_8
    else
      ckB (inR .i64 (v_8 + 1)) <|
      nx (v_8 + 1)
  else
    dn ()
def slices_IndexFunc_api_Person_api_Person_36L0 (s_0 : (List Person)) (v_7 : Int) (s0 : Int) : Option (Unit ⊕ Int) :=
  loopM (fun a => slices_IndexFunc_api_Person_api_Person_36L0K s_0 v_7 a (fun a' => some (.next a')) (fun e => some (.done e)) (fun r => some (.ret r))) s0
def slices_IndexFunc_api_Person_api_Person_36L0I : Shp := ⟨[(0, .d false (.slice Person.ty)), (1, .fn 36 .nil), (7, .d true (.int .i64)), (8, .d true (.int .i64))], []⟩
def slices_IndexFunc_api_Person_api_Person_36L0E : Shp := ⟨[], []⟩
def slices_IndexFunc_api_Person_api_Person_36 (s_0 : (List Person)) : Option Int :=
  bnd (slices_IndexFunc_api_Person_api_Person_36L0 s_0 (s_0.length : Int) 0) fun oe2 =>
  lk oe2 (fun e2 =>
    some (-1)) (fun r => some r)
def slices_ContainsFunc_api_Person_api_Person_36 (s_0 : (List Person)) : Option Bool :=
  bnd (slices_IndexFunc_api_Person_api_Person_36 s_0) fun r1 =>
  some (decide ((0 : Int) ≤ r1))
def law46_few_2 (d_0 : Delegation) : Option Bool :=
  bif decide ((100 : Int) < (ByteArray.size d_0.1 : Int)) then
    some true
  else
    bif decide ((100 : Int) < (ByteArray.size d_0.2.1 : Int)) then
      some true
    else
      some (decide ((100 : Int) < (ByteArray.size d_0.2.2.1 : Int)))
def slices_IndexFunc_api_Delegation_api_Delegation_38L0K {R : Type} (s_0 : (List Delegation)) (v_7 : Int) (v_8 : Int) (nx : Int → Option R) (dn : Unit → Option R) (rt : Int → Option R) : Option R :=
  bif decide (v_8 < v_7) then
    ckB (ix v_8 s_0.length) <|
    ckB (ix v_8 s_0.length) <|
    bnd (law46_few_2 (s_0.getD (Int.toNat v_8) Delegation.z)) fun r1 =>
    bif r1 then
      rt v_8
    else
      ckB (inR .i64 (v_8 + 1)) <|
      nx (v_8 + 1)
  else
    dn ()
def slices_IndexFunc_api_Delegation_api_Delegation_38L0 (s_0 : (List Delegation)) (v_7 : Int) (s0 : Int) : Option (Unit ⊕ Int) :=
  loopM (fun a => slices_IndexFunc_api_Delegation_api_Delegation_38L0K s_0 v_7 a (fun a' => some (.next a')) (fun e => some (.done e)) (fun r => some (.ret r))) s0
def slices_IndexFunc_api_Delegation_api_Delegation_38L0I : Shp := ⟨[(0, .d false (.slice Delegation.ty)), (1, .fn 38 .nil), (7, .d true (.int .i64)), (8, .d true (.int .i64))], []⟩
def slices_IndexFunc_api_Delegation_api_Delegation_38L0E : Shp := ⟨[], []⟩
def slices_IndexFunc_api_Delegation_api_Delegation_38 (s_0 : (List Delegation)) : Option Int :=
  bnd (slices_IndexFunc_api_Delegation_api_Delegation_38L0 s_0 (s_0.length : Int) 0) fun oe2 =>
  lk oe2 (fun e2 =>
    some (-1)) (fun r => some r)
def slices_ContainsFunc_api_Delegation_api_Delegation_38 (s_0 : (List Delegation)) : Option Bool :=
  bnd (slices_IndexFunc_api_Delegation_api_Delegation_38 s_0) fun r1 =>
  some (decide ((0 : Int) ≤ r1))
def law46_few_3 (d_0 : Duty) : Option Bool :=
  bif decide ((100 : Int) < (ByteArray.size d_0.2.1 : Int)) then
    some true
  else
    some (decide ((100 : Int) < (ByteArray.size d_0.2.2.1 : Int)))
def slices_IndexFunc_api_Duty_api_Duty_40L0K {R : Type} (s_0 : (List Duty)) (v_7 : Int) (v_8 : Int) (nx : Int → Option R) (dn : Unit → Option R) (rt : Int → Option R) : Option R :=
  bif decide (v_8 < v_7) then
    ckB (ix v_8 s_0.length) <|
    ckB (ix v_8 s_0.length) <|
    bnd (law46_few_3 (s_0.getD (Int.toNat v_8) Duty.z)) fun r1 =>
    bif r1 then
      rt v_8
    else
      ckB (inR .i64 (v_8 + 1)) <|
      nx (v_8 + 1)
  else
    dn ()
def slices_IndexFunc_api_Duty_api_Duty_40L0 (s_0 : (List Duty)) (v_7 : Int) (s0 : Int) : Option (Unit ⊕ Int) :=
  loopM (fun a => slices_IndexFunc_api_Duty_api_Duty_40L0K s_0 v_7 a (fun a' => some (.next a')) (fun e => some (.done e)) (fun r => some (.ret r))) s0
def slices_IndexFunc_api_Duty_api_Duty_40L0I : Shp := ⟨[(0, .d false (.slice Duty.ty)), (1, .fn 40 .nil), (7, .d true (.int .i64)), (8, .d true (.int .i64))], []⟩
def slices_IndexFunc_api_Duty_api_Duty_40L0E : Shp := ⟨[], []⟩
def slices_IndexFunc_api_Duty_api_Duty_40 (s_0 : (List Duty)) : Option Int :=
  bnd (slices_IndexFunc_api_Duty_api_Duty_40L0 s_0 (s_0.length : Int) 0) fun oe2 =>
  lk oe2 (fun e2 =>
    some (-1)) (fun r => some r)
def slices_ContainsFunc_api_Duty_api_Duty_40 (s_0 : (List Duty)) : Option Bool :=
  bnd (slices_IndexFunc_api_Duty_api_Duty_40 s_0) fun r1 =>
  some (decide ((0 : Int) ≤ r1))
def law46_few (o_0 : Org) : Option Bool :=
  bif decide ((o_0.1.length : Int) ≤ 12) then
    bif decide ((o_0.2.1.length : Int) ≤ 20) then
      bif decide ((o_0.2.2.1.length : Int) ≤ 20) then
        bnd (slices_ContainsFunc_api_Person_api_Person_36 o_0.1) fun r1 =>
        bif (!r1) then
          bnd (slices_ContainsFunc_api_Delegation_api_Delegation_38 o_0.2.1) fun r2 =>
          bif (!r2) then
            bnd (slices_ContainsFunc_api_Duty_api_Duty_40 o_0.2.2.1) fun r3 =>
            some (!r3)
          else
            some false
        else
          some false
      else
        some false
    else
      some false
  else
    bif decide ((40 : Int) < (o_0.1.length : Int)) then
      bif decide ((o_0.1.length : Int) < 45) then
        bif decide ((o_0.2.1.length : Int) ≤ 20) then
          bif decide ((o_0.2.2.1.length : Int) ≤ 20) then
            bnd (slices_ContainsFunc_api_Person_api_Person_36 o_0.1) fun r4 =>
            bif (!r4) then
              bnd (slices_ContainsFunc_api_Delegation_api_Delegation_38 o_0.2.1) fun r5 =>
              bif (!r5) then
                bnd (slices_ContainsFunc_api_Duty_api_Duty_40 o_0.2.2.1) fun r6 =>
                some (!r6)
              else
                some false
            else
              some false
          else
            some false
        else
          some false
      else
        some false
    else
      some false
def law46_open (acts_0 : (List ByteArray)) (l_1 : (List ByteArray)) : Option Bool :=
  bnd (law46_words acts_0) fun r1 =>
  bif r1 then
    bnd (law46_words l_1) fun r2 =>
    bif r2 then
      bif decide ((acts_0.length : Int) ≤ 6) then
        some true
      else
        some (decide ((12 : Int) < (acts_0.length : Int)))
    else
      some false
  else
    some false
def law46_tasks_1 (t_0 : Task) : Option Bool :=
  bif decide ((100 : Int) < (ByteArray.size t_0.1 : Int)) then
    some true
  else
    some (decide ((100 : Int) < (ByteArray.size t_0.2.1 : Int)))
def slices_IndexFunc_api_Task_api_Task_44L0K {R : Type} (s_0 : (List Task)) (v_7 : Int) (v_8 : Int) (nx : Int → Option R) (dn : Unit → Option R) (rt : Int → Option R) : Option R :=
  bif decide (v_8 < v_7) then
    ckB (ix v_8 s_0.length) <|
    ckB (ix v_8 s_0.length) <|
    bnd (law46_tasks_1 (s_0.getD (Int.toNat v_8) Task.z)) fun r1 =>
    bif r1 then
      rt v_8
    else
      ckB (inR .i64 (v_8 + 1)) <|
      nx (v_8 + 1)
  else
    dn ()
def slices_IndexFunc_api_Task_api_Task_44L0 (s_0 : (List Task)) (v_7 : Int) (s0 : Int) : Option (Unit ⊕ Int) :=
  loopM (fun a => slices_IndexFunc_api_Task_api_Task_44L0K s_0 v_7 a (fun a' => some (.next a')) (fun e => some (.done e)) (fun r => some (.ret r))) s0
def slices_IndexFunc_api_Task_api_Task_44L0I : Shp := ⟨[(0, .d false (.slice Task.ty)), (1, .fn 44 .nil), (7, .d true (.int .i64)), (8, .d true (.int .i64))], []⟩
def slices_IndexFunc_api_Task_api_Task_44L0E : Shp := ⟨[], []⟩
def slices_IndexFunc_api_Task_api_Task_44 (s_0 : (List Task)) : Option Int :=
  bnd (slices_IndexFunc_api_Task_api_Task_44L0 s_0 (s_0.length : Int) 0) fun oe2 =>
  lk oe2 (fun e2 =>
    some (-1)) (fun r => some r)
def slices_ContainsFunc_api_Task_api_Task_44 (s_0 : (List Task)) : Option Bool :=
  bnd (slices_IndexFunc_api_Task_api_Task_44 s_0) fun r1 =>
  some (decide ((0 : Int) ≤ r1))
def law46_tasks (l_0 : (List Task)) : Option Bool :=
  bif decide ((l_0.length : Int) ≤ 30) then
    bnd (slices_ContainsFunc_api_Task_api_Task_44 l_0) fun r1 =>
    some (!r1)
  else
    bif decide ((1000 : Int) < (l_0.length : Int)) then
      bif decide ((l_0.length : Int) < 1005) then
        bnd (slices_ContainsFunc_api_Task_api_Task_44 l_0) fun r2 =>
        some (!r2)
      else
        some false
    else
      some false
def roles_CheckL0K {R : Type} (acts_1 : (List ByteArray)) (roles_2 : (List ByteArray)) (people_3 : (List ByteArray)) (time_4 : Int) (history_5 : (List Task)) (v_29 : (List ByteArray)) (v_30 : Int) (o_60 : (List Person)) (o_61 : (List Delegation)) (o_62 : (List Duty)) (v_31 : Int) (nx : Int → Option R) (dn : Unit → Option R) (rt : Bool → Option R) : Option R :=
  bif decide (v_31 < v_30) then
    ckB (ix v_31 v_29.length) <|
    ckB (ix v_31 v_29.length) <|
    bnd (roles_find (o_60, o_61, o_62, ()) (v_29.getD (Int.toNat v_31) ⟨#[]⟩)) fun r2 =>
    bif decide (r2 < 0) then
      rt false
    else
      ckB (cut 0 v_31 people_3.length) <|
      bnd (slices_Contains_string_string (people_3.take (Int.toNat v_31)) (v_29.getD (Int.toNat v_31) ⟨#[]⟩)) fun r3 =>
      bif r3 then
        rt false
      else
        ckB (ix v_31 acts_1.length) <|
        ckB (ix v_31 acts_1.length) <|
        ckB (ix v_31 roles_2.length) <|
        ckB (ix v_31 roles_2.length) <|
        bnd (roles_may (o_60, o_61, o_62, ()) (v_29.getD (Int.toNat v_31) ⟨#[]⟩) (acts_1.getD (Int.toNat v_31) ⟨#[]⟩) (roles_2.getD (Int.toNat v_31) ⟨#[]⟩) time_4 history_5) fun r4 =>
        bif (!r4) then
          rt false
        else
          ckB (inR .i64 (v_31 + 1)) <|
          nx (v_31 + 1)
  else
    dn ()
def roles_CheckL0 (acts_1 : (List ByteArray)) (roles_2 : (List ByteArray)) (people_3 : (List ByteArray)) (time_4 : Int) (history_5 : (List Task)) (v_29 : (List ByteArray)) (v_30 : Int) (o_60 : (List Person)) (o_61 : (List Delegation)) (o_62 : (List Duty)) (s0 : Int) : Option (Unit ⊕ Bool) :=
  loopM (fun a => roles_CheckL0K acts_1 roles_2 people_3 time_4 history_5 v_29 v_30 o_60 o_61 o_62 a (fun a' => some (.next a')) (fun e => some (.done e)) (fun r => some (.ret r))) s0
def roles_CheckL0I : Shp := ⟨[(1, .d false (.slice .str)), (2, .d false (.slice .str)), (3, .d false (.slice .str)), (4, .d true (.int .i64)), (5, .d false (.slice Task.ty)), (6, .ptr 0), (29, .d false (.slice .str)), (30, .d true (.int .i64)), (31, .d true (.int .i64))], [.cs 26 3 1 (.cons (.d true (.slice Person.ty)) (.cons (.d true (.slice Delegation.ty)) (.cons (.d true (.slice Duty.ty)) .nil)))]⟩
def roles_CheckL0E : Shp := ⟨[], []⟩
def roles_Check (o_0 : Org) (acts_1 : (List ByteArray)) (roles_2 : (List ByteArray)) (people_3 : (List ByteArray)) (time_4 : Int) (history_5 : (List Task)) : Option Bool :=
  bnd (roles_given o_0 acts_1 roles_2 time_4 history_5) fun r1 =>
  bif (!decide (r1 = 0)) then
    some false
  else
    bif (!decide ((people_3.length : Int) = (acts_1.length : Int))) then
      some false
    else
      bnd (roles_CheckL0 acts_1 roles_2 people_3 time_4 history_5 people_3 (people_3.length : Int) o_0.1 o_0.2.1 o_0.2.2.1 0) fun oe5 =>
      lk oe5 (fun e5 =>
        some true) (fun r => some r)
def ref02_letter (c_0 : Int) : Option Bool :=
  bif decide ((97 : Int) ≤ c_0) then
    bif decide (c_0 ≤ 122) then
      some true
    else
      bif decide ((65 : Int) ≤ c_0) then
        some (decide (c_0 ≤ 90))
      else
        some false
  else
    bif decide ((65 : Int) ≤ c_0) then
      some (decide (c_0 ≤ 90))
    else
      some false
def ref02_IsNameL0K {R : Type} (s_0 : ByteArray) (i_3 : Int) (nx : Int → Option R) (dn : Unit → Option R) (rt : Bool → Option R) : Option R :=
  bif decide (i_3 < (ByteArray.size s_0 : Int)) then
    ckB (ix i_3 (ByteArray.size s_0)) <|
    bnd (ref02_letter (((ByteArray.data s_0).getD (Int.toNat i_3) 0).toNat : Int)) fun r2 =>
    bif (!r2) then
      bif decide ((48 : Int) ≤ (((ByteArray.data s_0).getD (Int.toNat i_3) 0).toNat : Int)) then
        bif (!(decide ((((ByteArray.data s_0).getD (Int.toNat i_3) 0).toNat : Int) ≤ 57))) then
          bif (!decide ((((ByteArray.data s_0).getD (Int.toNat i_3) 0).toNat : Int) = 95)) then
            bif (!decide ((((ByteArray.data s_0).getD (Int.toNat i_3) 0).toNat : Int) = 45)) then
              bif (!decide ((((ByteArray.data s_0).getD (Int.toNat i_3) 0).toNat : Int) = 46)) then
                rt false
              else
                ckB (inR .i64 (i_3 + 1)) <|
                nx (i_3 + 1)
            else
              ckB (inR .i64 (i_3 + 1)) <|
              nx (i_3 + 1)
          else
            ckB (inR .i64 (i_3 + 1)) <|
            nx (i_3 + 1)
        else
          ckB (inR .i64 (i_3 + 1)) <|
          nx (i_3 + 1)
      else
        bif (!decide ((((ByteArray.data s_0).getD (Int.toNat i_3) 0).toNat : Int) = 95)) then
          bif (!decide ((((ByteArray.data s_0).getD (Int.toNat i_3) 0).toNat : Int) = 45)) then
            bif (!decide ((((ByteArray.data s_0).getD (Int.toNat i_3) 0).toNat : Int) = 46)) then
              rt false
            else
              ckB (inR .i64 (i_3 + 1)) <|
              nx (i_3 + 1)
          else
            ckB (inR .i64 (i_3 + 1)) <|
            nx (i_3 + 1)
        else
          ckB (inR .i64 (i_3 + 1)) <|
          nx (i_3 + 1)
    else
      ckB (inR .i64 (i_3 + 1)) <|
      nx (i_3 + 1)
  else
    dn ()
def ref02_IsNameL0 (s_0 : ByteArray) (s0 : Int) : Option (Unit ⊕ Bool) :=
  loopM (fun a => ref02_IsNameL0K s_0 a (fun a' => some (.next a')) (fun e => some (.done e)) (fun r => some (.ret r))) s0
def ref02_IsName (s_0 : ByteArray) : Option Bool :=
  bif decide ((ByteArray.size s_0 : Int) < 1) then
    some false
  else
    bif decide ((40 : Int) < (ByteArray.size s_0 : Int)) then
      some false
    else
      ckB (ix 0 (ByteArray.size s_0)) <|
      bnd (ref02_letter (((ByteArray.data s_0).getD 0 0).toNat : Int)) fun r1 =>
      bif (!r1) then
        some false
      else
        bnd (ref02_IsNameL0 s_0 1) fun oe3 =>
        lk oe3 (fun e3 =>
          some true) (fun r => some r)
def ref02_NamesL0K {R : Type} (l_0 : (List ByteArray)) (i_3 : Int) (nx : Int → Option R) (dn : Unit → Option R) (rt : Bool → Option R) : Option R :=
  bif decide (i_3 < (l_0.length : Int)) then
    ckB (ix i_3 l_0.length) <|
    ckB (ix i_3 l_0.length) <|
    bnd (ref02_IsName (l_0.getD (Int.toNat i_3) ⟨#[]⟩)) fun r1 =>
    bif (!r1) then
      rt false
    else
      ckB (inR .i64 (i_3 + 1)) <|
      nx (i_3 + 1)
  else
    dn ()
def ref02_NamesL0 (l_0 : (List ByteArray)) (s0 : Int) : Option (Unit ⊕ Bool) :=
  loopM (fun a => ref02_NamesL0K l_0 a (fun a' => some (.next a')) (fun e => some (.done e)) (fun r => some (.ret r))) s0
def ref02_Names (l_0 : (List ByteArray)) : Option Bool :=
  bnd (ref02_NamesL0 l_0 0) fun oe2 =>
  lk oe2 (fun e2 =>
    some true) (fun r => some r)
def ref02_AscendsL0K {R : Type} (l_0 : (List ByteArray)) (i_3 : Int) (nx : Int → Option R) (dn : Unit → Option R) (rt : Bool → Option R) : Option R :=
  bif decide (i_3 < (l_0.length : Int)) then
    ckB (inR .i64 (i_3 - 1)) <|
    ckB (ix (i_3 - 1) l_0.length) <|
    ckB (ix (i_3 - 1) l_0.length) <|
    ckB (ix i_3 l_0.length) <|
    ckB (ix i_3 l_0.length) <|
    bif (!(Op.bytesLess (ByteArray.toList (l_0.getD (Int.toNat (i_3 - 1)) ⟨#[]⟩)) (ByteArray.toList (l_0.getD (Int.toNat i_3) ⟨#[]⟩)))) then
      rt false
    else
      ckB (inR .i64 (i_3 + 1)) <|
      nx (i_3 + 1)
  else
    dn ()
def ref02_AscendsL0 (l_0 : (List ByteArray)) (s0 : Int) : Option (Unit ⊕ Bool) :=
  loopM (fun a => ref02_AscendsL0K l_0 a (fun a' => some (.next a')) (fun e => some (.done e)) (fun r => some (.ret r))) s0
def ref02_Ascends (l_0 : (List ByteArray)) : Option Bool :=
  bnd (ref02_AscendsL0 l_0 1) fun oe1 =>
  lk oe1 (fun e1 =>
    some true) (fun r => some r)
def ref02_Alphabet (l_0 : (List ByteArray)) : Option Bool :=
  bif decide ((l_0.length : Int) ≤ 40) then
    bnd (ref02_Names l_0) fun r1 =>
    bif r1 then
      bnd (ref02_Ascends l_0) fun r2 =>
      some r2
    else
      some false
  else
    some false
def ref46_PersonL0K {R : Type} (s_1 : ByteArray) (o_20 : (List Person)) (o_21 : (List Delegation)) (o_22 : (List Duty)) (i_5 : Int) (nx : Int → Option R) (dn : Unit → Option R) (rt : Int → Option R) : Option R :=
  bif decide (i_5 < (o_20.length : Int)) then
    ckB (ix i_5 o_20.length) <|
    ckB (ix i_5 o_20.length) <|
    bif (ByteArray.toList (o_20.getD (Int.toNat i_5) Person.z).1 == ByteArray.toList s_1) then
      rt i_5
    else
      ckB (inR .i64 (i_5 + 1)) <|
      nx (i_5 + 1)
  else
    dn ()
def ref46_PersonL0 (s_1 : ByteArray) (o_20 : (List Person)) (o_21 : (List Delegation)) (o_22 : (List Duty)) (s0 : Int) : Option (Unit ⊕ Int) :=
  loopM (fun a => ref46_PersonL0K s_1 o_20 o_21 o_22 a (fun a' => some (.next a')) (fun e => some (.done e)) (fun r => some (.ret r))) s0
def ref46_Person (o_0 : Org) (s_1 : ByteArray) : Option Int :=
  bnd (ref46_PersonL0 s_1 o_0.1 o_0.2.1 o_0.2.2.1 0) fun oe1 =>
  lk oe1 (fun e1 =>
    some (-1)) (fun r => some r)
def ref03_ValidSpan (s_0 : Span) : Option Bool :=
  bif decide ((0 : Int) ≤ s_0.1) then
    bif decide (s_0.1 < s_0.2.1) then
      some (decide (s_0.2.1 ≤ 1099511627776))
    else
      some false
  else
    some false
def ref46_ValidL0K {R : Type} (o_10 : (List Person)) (o_11 : (List Delegation)) (o_12 : (List Duty)) (i_3 : Int) (nx : Int → Option R) (dn : Unit → Option R) (rt : Bool → Option R) : Option R :=
  bif decide (i_3 < (o_10.length : Int)) then
    ckB (ix i_3 o_10.length) <|
    ckB (ix i_3 o_10.length) <|
    bnd (ref02_IsName (o_10.getD (Int.toNat i_3) Person.z).1) fun r1 =>
    bif (!r1) then
      rt false
    else
      bif decide ((0 : Int) < i_3) then
        ckB (inR .i64 (i_3 - 1)) <|
        ckB (ix (i_3 - 1) o_10.length) <|
        ckB (ix (i_3 - 1) o_10.length) <|
        bif (!(Op.bytesLess (ByteArray.toList (o_10.getD (Int.toNat (i_3 - 1)) Person.z).1) (ByteArray.toList (o_10.getD (Int.toNat i_3) Person.z).1))) then
          rt false
        else
          bnd (ref02_Alphabet (o_10.getD (Int.toNat i_3) Person.z).2.1) fun r2 =>
          bif (!r2) then
            rt false
          else
            ckB (inR .i64 (i_3 + 1)) <|
            nx (i_3 + 1)
      else
        bnd (ref02_Alphabet (o_10.getD (Int.toNat i_3) Person.z).2.1) fun r3 =>
        bif (!r3) then
          rt false
        else
          ckB (inR .i64 (i_3 + 1)) <|
          nx (i_3 + 1)
  else
    dn ()
def ref46_ValidL0 (o_10 : (List Person)) (o_11 : (List Delegation)) (o_12 : (List Duty)) (s0 : Int) : Option (Unit ⊕ Bool) :=
  loopM (fun a => ref46_ValidL0K o_10 o_11 o_12 a (fun a' => some (.next a')) (fun e => some (.done e)) (fun r => some (.ret r))) s0
def ref46_ValidL1K {R : Type} (o_10 : (List Person)) (o_11 : (List Delegation)) (o_12 : (List Duty)) (i_5 : Int) (nx : Int → Option R) (dn : Unit → Option R) (rt : Bool → Option R) : Option R :=
  bif decide (i_5 < (o_11.length : Int)) then
    ckB (ix i_5 o_11.length) <|
    ckB (ix i_5 o_11.length) <|
    bnd (ref46_Person (o_10, o_11, o_12, ()) (o_11.getD (Int.toNat i_5) Delegation.z).1) fun r5 =>
    bif decide (r5 < 0) then
      rt false
    else
      bnd (ref46_Person (o_10, o_11, o_12, ()) (o_11.getD (Int.toNat i_5) Delegation.z).2.1) fun r6 =>
      bif decide (r6 < 0) then
        rt false
      else
        bif (ByteArray.toList (o_11.getD (Int.toNat i_5) Delegation.z).1 == ByteArray.toList (o_11.getD (Int.toNat i_5) Delegation.z).2.1) then
          rt false
        else
          bnd (ref02_IsName (o_11.getD (Int.toNat i_5) Delegation.z).2.2.1) fun r7 =>
          bif (!r7) then
            rt false
          else
            bnd (ref03_ValidSpan (o_11.getD (Int.toNat i_5) Delegation.z).2.2.2.1) fun r8 =>
            bif (!r8) then
              rt false
            else
              ckB (inR .i64 (i_5 + 1)) <|
              nx (i_5 + 1)
  else
    dn ()
def ref46_ValidL1 (o_10 : (List Person)) (o_11 : (List Delegation)) (o_12 : (List Duty)) (s0 : Int) : Option (Unit ⊕ Bool) :=
  loopM (fun a => ref46_ValidL1K o_10 o_11 o_12 a (fun a' => some (.next a')) (fun e => some (.done e)) (fun r => some (.ret r))) s0
def ref46_ValidL2K {R : Type} (o_10 : (List Person)) (o_11 : (List Delegation)) (o_12 : (List Duty)) (i_7 : Int) (nx : Int → Option R) (dn : Unit → Option R) (rt : Bool → Option R) : Option R :=
  bif decide (i_7 < (o_12.length : Int)) then
    ckB (ix i_7 o_12.length) <|
    ckB (ix i_7 o_12.length) <|
    bif (!decide ((o_12.getD (Int.toNat i_7) Duty.z).1 = 1)) then
      bif (!decide ((o_12.getD (Int.toNat i_7) Duty.z).1 = 2)) then
        rt false
      else
        bnd (ref02_IsName (o_12.getD (Int.toNat i_7) Duty.z).2.1) fun r10 =>
        bif (!r10) then
          rt false
        else
          bnd (ref02_IsName (o_12.getD (Int.toNat i_7) Duty.z).2.2.1) fun r11 =>
          bif (!r11) then
            rt false
          else
            ckB (inR .i64 (i_7 + 1)) <|
            nx (i_7 + 1)
    else
      bnd (ref02_IsName (o_12.getD (Int.toNat i_7) Duty.z).2.1) fun r12 =>
      bif (!r12) then
        rt false
      else
        bnd (ref02_IsName (o_12.getD (Int.toNat i_7) Duty.z).2.2.1) fun r13 =>
        bif (!r13) then
          rt false
        else
          ckB (inR .i64 (i_7 + 1)) <|
          nx (i_7 + 1)
  else
    dn ()
def ref46_ValidL2 (o_10 : (List Person)) (o_11 : (List Delegation)) (o_12 : (List Duty)) (s0 : Int) : Option (Unit ⊕ Bool) :=
  loopM (fun a => ref46_ValidL2K o_10 o_11 o_12 a (fun a' => some (.next a')) (fun e => some (.done e)) (fun r => some (.ret r))) s0
def ref46_Valid (o_0 : Org) : Option Bool :=
  bif decide ((40 : Int) < (o_0.1.length : Int)) then
    some false
  else
    bif decide ((1000 : Int) < (o_0.2.1.length : Int)) then
      some false
    else
      bif decide ((1000 : Int) < (o_0.2.2.1.length : Int)) then
        some false
      else
        bnd (ref46_ValidL0 o_0.1 o_0.2.1 o_0.2.2.1 0) fun oe4 =>
        lk oe4 (fun e4 =>
          bnd (ref46_ValidL1 o_0.1 o_0.2.1 o_0.2.2.1 0) fun oe9 =>
          lk oe9 (fun e9 =>
            bnd (ref46_ValidL2 o_0.1 o_0.2.1 o_0.2.2.1 0) fun oe14 =>
            lk oe14 (fun e14 =>
              some true) (fun r => some r)) (fun r => some r)) (fun r => some r)
def ref46_instant (t_0 : Int) : Option Bool :=
  bif decide ((0 : Int) ≤ t_0) then
    some (decide (t_0 ≤ 1099511627776))
  else
    some false
def ref46_pastL0K {R : Type} (l_1 : (List Task)) (o_20 : (List Person)) (o_21 : (List Delegation)) (o_22 : (List Duty)) (i_5 : Int) (nx : Int → Option R) (dn : Unit → Option R) (rt : Int → Option R) : Option R :=
  bif decide (i_5 < (l_1.length : Int)) then
    ckB (ix i_5 l_1.length) <|
    ckB (ix i_5 l_1.length) <|
    bnd (ref02_IsName (l_1.getD (Int.toNat i_5) Task.z).1) fun r1 =>
    bif (!r1) then
      rt 8
    else
      ckB (ix i_5 l_1.length) <|
      ckB (ix i_5 l_1.length) <|
      bnd (ref46_Person (o_20, o_21, o_22, ()) (l_1.getD (Int.toNat i_5) Task.z).2.1) fun r2 =>
      bif decide (r2 < 0) then
        rt 8
      else
        ckB (inR .i64 (i_5 + 1)) <|
        nx (i_5 + 1)
  else
    dn ()
def ref46_pastL0 (l_1 : (List Task)) (o_20 : (List Person)) (o_21 : (List Delegation)) (o_22 : (List Duty)) (s0 : Int) : Option (Unit ⊕ Int) :=
  loopM (fun a => ref46_pastL0K l_1 o_20 o_21 o_22 a (fun a' => some (.next a')) (fun e => some (.done e)) (fun r => some (.ret r))) s0
def ref46_past (o_0 : Org) (l_1 : (List Task)) : Option Int :=
  bif decide ((1000 : Int) < (l_1.length : Int)) then
    some 5
  else
    bnd (ref46_pastL0 l_1 o_0.1 o_0.2.1 o_0.2.2.1 0) fun oe3 =>
    lk oe3 (fun e3 =>
      some 0) (fun r => some r)
def ref46_fault (o_0 : Org) (acts_1 : (List ByteArray)) (roles_2 : (List ByteArray)) (time_3 : Int) (l_4 : (List Task)) : Option Int :=
  bnd (ref46_Valid o_0) fun r1 =>
  bif (!r1) then
    some 1
  else
    bnd (ref02_Names acts_1) fun r2 =>
    bif (!r2) then
      some 1
    else
      bnd (ref02_Names roles_2) fun r3 =>
      bif (!r3) then
        some 1
      else
        bnd (ref46_instant time_3) fun r4 =>
        bif (!r4) then
          some 2
        else
          bnd (ref46_past o_0 l_4) fun r5 =>
          bif (!decide (r5 = 0)) then
            some r5
          else
            bif (!decide ((acts_1.length : Int) = (roles_2.length : Int))) then
              some 29
            else
              bif decide ((12 : Int) < (acts_1.length : Int)) then
                some 5
              else
                some 0
def ref02_IndexL0K {R : Type} (l_0 : (List ByteArray)) (s_1 : ByteArray) (i_5 : Int) (nx : Int → Option R) (dn : Unit → Option R) (rt : Int → Option R) : Option R :=
  bif decide (i_5 < (l_0.length : Int)) then
    ckB (ix i_5 l_0.length) <|
    ckB (ix i_5 l_0.length) <|
    bif (ByteArray.toList (l_0.getD (Int.toNat i_5) ⟨#[]⟩) == ByteArray.toList s_1) then
      rt i_5
    else
      ckB (inR .i64 (i_5 + 1)) <|
      nx (i_5 + 1)
  else
    dn ()
def ref02_IndexL0 (l_0 : (List ByteArray)) (s_1 : ByteArray) (s0 : Int) : Option (Unit ⊕ Int) :=
  loopM (fun a => ref02_IndexL0K l_0 s_1 a (fun a' => some (.next a')) (fun e => some (.done e)) (fun r => some (.ret r))) s0
def ref02_Index (l_0 : (List ByteArray)) (s_1 : ByteArray) : Option Int :=
  bnd (ref02_IndexL0 l_0 s_1 0) fun oe1 =>
  lk oe1 (fun e1 =>
    some (-1)) (fun r => some r)
def ref46_hasL0K {R : Type} (person_1 : ByteArray) (role_2 : ByteArray) (time_3 : Int) (o_40 : (List Person)) (o_41 : (List Delegation)) (o_42 : (List Duty)) (i_9 : Int) (nx : Int → Option R) (dn : Unit → Option R) (rt : Bool → Option R) : Option R :=
  bif decide (i_9 < (o_41.length : Int)) then
    ckB (ix i_9 o_41.length) <|
    ckB (ix i_9 o_41.length) <|
    bif (ByteArray.toList (o_41.getD (Int.toNat i_9) Delegation.z).2.1 == ByteArray.toList person_1) then
      bif (ByteArray.toList (o_41.getD (Int.toNat i_9) Delegation.z).2.2.1 == ByteArray.toList role_2) then
        bif decide ((o_41.getD (Int.toNat i_9) Delegation.z).2.2.2.1.1 ≤ time_3) then
          bif decide (time_3 < (o_41.getD (Int.toNat i_9) Delegation.z).2.2.2.1.2.1) then
            bnd (ref46_Person (o_40, o_41, o_42, ()) (o_41.getD (Int.toNat i_9) Delegation.z).1) fun r3 =>
            ckB (ix r3 o_40.length) <|
            ckB (ix r3 o_40.length) <|
            bnd (ref02_Index (o_40.getD (Int.toNat r3) Person.z).2.1 role_2) fun r4 =>
            bif decide ((0 : Int) ≤ r4) then
              rt true
            else
              ckB (inR .i64 (i_9 + 1)) <|
              nx (i_9 + 1)
          else
            ckB (inR .i64 (i_9 + 1)) <|
            nx (i_9 + 1)
        else
          ckB (inR .i64 (i_9 + 1)) <|
          nx (i_9 + 1)
      else
        ckB (inR .i64 (i_9 + 1)) <|
        nx (i_9 + 1)
    else
      ckB (inR .i64 (i_9 + 1)) <|
      nx (i_9 + 1)
  else
    dn ()
def ref46_hasL0 (person_1 : ByteArray) (role_2 : ByteArray) (time_3 : Int) (o_40 : (List Person)) (o_41 : (List Delegation)) (o_42 : (List Duty)) (s0 : Int) : Option (Unit ⊕ Bool) :=
  loopM (fun a => ref46_hasL0K person_1 role_2 time_3 o_40 o_41 o_42 a (fun a' => some (.next a')) (fun e => some (.done e)) (fun r => some (.ret r))) s0
def ref46_has (o_0 : Org) (person_1 : ByteArray) (role_2 : ByteArray) (time_3 : Int) : Option Bool :=
  bnd (ref46_Person o_0 person_1) fun r1 =>
  ckB (ix r1 o_0.1.length) <|
  ckB (ix r1 o_0.1.length) <|
  bnd (ref02_Index (o_0.1.getD (Int.toNat r1) Person.z).2.1 role_2) fun r2 =>
  bif decide ((0 : Int) ≤ r2) then
    some true
  else
    bnd (ref46_hasL0 person_1 role_2 time_3 o_0.1 o_0.2.1 o_0.2.2.1 0) fun oe5 =>
    lk oe5 (fun e5 =>
      some false) (fun r => some r)
def ref46_brokenT0K {R : Type} (person_1 : ByteArray) (act_2 : ByteArray) (l_3 : (List Task)) (i_9 : Int) (k_11 : Int) (other_12 : Bool) (o_40 : (List Person)) (o_41 : (List Delegation)) (o_42 : (List Duty)) (d_100 : Int) (d_101 : ByteArray) (d_102 : ByteArray) (dn : Unit → Option R) (rt : Int → Option R) : Option R :=
  ckB (ix k_11 l_3.length) <|
  ckB (ix k_11 l_3.length) <|
  bif other_12 then
    bif (decide (d_100 = 1) == (ByteArray.toList (l_3.getD (Int.toNat k_11) Task.z).2.1 == ByteArray.toList person_1)) then
      rt i_9
    else
      dn ()
  else
    dn ()
def ref46_brokenT0 (person_1 : ByteArray) (act_2 : ByteArray) (l_3 : (List Task)) (i_9 : Int) (k_11 : Int) (other_12 : Bool) (o_40 : (List Person)) (o_41 : (List Delegation)) (o_42 : (List Duty)) (d_100 : Int) (d_101 : ByteArray) (d_102 : ByteArray) : Option (Unit ⊕ Int) :=
  ref46_brokenT0K person_1 act_2 l_3 i_9 k_11 other_12 o_40 o_41 o_42 d_100 d_101 d_102 (fun e => some (.inl e)) (fun r => some (.inr r))
def ref46_brokenL1K {R : Type} (person_1 : ByteArray) (act_2 : ByteArray) (l_3 : (List Task)) (i_9 : Int) (o_40 : (List Person)) (o_41 : (List Delegation)) (o_42 : (List Duty)) (d_100 : Int) (d_101 : ByteArray) (d_102 : ByteArray) (k_11 : Int) (nx : Int → Option R) (dn : Unit → Option R) (rt : Int → Option R) : Option R :=
  bif decide (k_11 < (l_3.length : Int)) then
    bif (ByteArray.toList act_2 == ByteArray.toList d_101) then
      ckB (ix k_11 l_3.length) <|
      ckB (ix k_11 l_3.length) <|
      bif (ByteArray.toList (l_3.getD (Int.toNat k_11) Task.z).1 == ByteArray.toList d_102) then
        bnd (ref46_brokenT0 person_1 act_2 l_3 i_9 k_11 true o_40 o_41 o_42 d_100 d_101 d_102) fun oe1 =>
        lk oe1 (fun e1 =>
          ckB (inR .i64 (k_11 + 1)) <|
          nx (k_11 + 1)) (fun r => rt r)
      else
        bif (ByteArray.toList act_2 == ByteArray.toList d_102) then
          ckB (ix k_11 l_3.length) <|
          ckB (ix k_11 l_3.length) <|
          bnd (ref46_brokenT0 person_1 act_2 l_3 i_9 k_11 (ByteArray.toList (l_3.getD (Int.toNat k_11) Task.z).1 == ByteArray.toList d_101) o_40 o_41 o_42 d_100 d_101 d_102) fun oe2 =>
          lk oe2 (fun e2 =>
            ckB (inR .i64 (k_11 + 1)) <|
            nx (k_11 + 1)) (fun r => rt r)
        else
          bnd (ref46_brokenT0 person_1 act_2 l_3 i_9 k_11 false o_40 o_41 o_42 d_100 d_101 d_102) fun oe3 =>
          lk oe3 (fun e3 =>
            ckB (inR .i64 (k_11 + 1)) <|
            nx (k_11 + 1)) (fun r => rt r)
    else
      bif (ByteArray.toList act_2 == ByteArray.toList d_102) then
        ckB (ix k_11 l_3.length) <|
        ckB (ix k_11 l_3.length) <|
        bnd (ref46_brokenT0 person_1 act_2 l_3 i_9 k_11 (ByteArray.toList (l_3.getD (Int.toNat k_11) Task.z).1 == ByteArray.toList d_101) o_40 o_41 o_42 d_100 d_101 d_102) fun oe4 =>
        lk oe4 (fun e4 =>
          ckB (inR .i64 (k_11 + 1)) <|
          nx (k_11 + 1)) (fun r => rt r)
      else
        bnd (ref46_brokenT0 person_1 act_2 l_3 i_9 k_11 false o_40 o_41 o_42 d_100 d_101 d_102) fun oe5 =>
        lk oe5 (fun e5 =>
          ckB (inR .i64 (k_11 + 1)) <|
          nx (k_11 + 1)) (fun r => rt r)
  else
    dn ()
def ref46_brokenL1 (person_1 : ByteArray) (act_2 : ByteArray) (l_3 : (List Task)) (i_9 : Int) (o_40 : (List Person)) (o_41 : (List Delegation)) (o_42 : (List Duty)) (d_100 : Int) (d_101 : ByteArray) (d_102 : ByteArray) (s0 : Int) : Option (Unit ⊕ Int) :=
  loopM (fun a => ref46_brokenL1K person_1 act_2 l_3 i_9 o_40 o_41 o_42 d_100 d_101 d_102 a (fun a' => some (.next a')) (fun e => some (.done e)) (fun r => some (.ret r))) s0
def ref46_brokenL2K {R : Type} (person_1 : ByteArray) (act_2 : ByteArray) (l_3 : (List Task)) (o_40 : (List Person)) (o_41 : (List Delegation)) (o_42 : (List Duty)) (i_9 : Int) (nx : Int → Option R) (dn : Unit → Option R) (rt : Int → Option R) : Option R :=
  bif decide (i_9 < (o_42.length : Int)) then
    ckB (ix i_9 o_42.length) <|
    ckB (ix i_9 o_42.length) <|
    bnd (ref46_brokenL1 person_1 act_2 l_3 i_9 o_40 o_41 o_42 (o_42.getD (Int.toNat i_9) Duty.z).1 (o_42.getD (Int.toNat i_9) Duty.z).2.1 (o_42.getD (Int.toNat i_9) Duty.z).2.2.1 0) fun oe6 =>
    lk oe6 (fun e6 =>
      ckB (inR .i64 (i_9 + 1)) <|
      nx (i_9 + 1)) (fun r => rt r)
  else
    dn ()
def ref46_brokenL2 (person_1 : ByteArray) (act_2 : ByteArray) (l_3 : (List Task)) (o_40 : (List Person)) (o_41 : (List Delegation)) (o_42 : (List Duty)) (s0 : Int) : Option (Unit ⊕ Int) :=
  loopM (fun a => ref46_brokenL2K person_1 act_2 l_3 o_40 o_41 o_42 a (fun a' => some (.next a')) (fun e => some (.done e)) (fun r => some (.ret r))) s0
def ref46_broken (o_0 : Org) (person_1 : ByteArray) (act_2 : ByteArray) (l_3 : (List Task)) : Option Int :=
  bnd (ref46_brokenL2 person_1 act_2 l_3 o_0.1 o_0.2.1 o_0.2.2.1 0) fun oe7 =>
  lk oe7 (fun e7 =>
    some (-1)) (fun r => some r)
def ref46_may (o_0 : Org) (person_1 : ByteArray) (act_2 : ByteArray) (role_3 : ByteArray) (time_4 : Int) (l_5 : (List Task)) : Option Bool :=
  bnd (ref46_has o_0 person_1 role_3 time_4) fun r1 =>
  bif r1 then
    bnd (ref46_broken o_0 person_1 act_2 l_5) fun r2 =>
    some (decide (r2 < 0))
  else
    some false
def roles_Allowed (o_0 : Org) (person_1 : ByteArray) (act_2 : ByteArray) (role_3 : ByteArray) (time_4 : Int) (history_5 : (List Task)) : Option (Bool × Int) :=
  bnd (roles_Valid o_0) fun r1 =>
  bif (!r1) then
    some (false, 1)
  else
    bnd (roles_names [act_2, role_3]) fun r2 =>
    bif (!r2) then
      some (false, 1)
    else
      bnd (roles_instant time_4) fun r3 =>
      bif (!r3) then
        some (false, 2)
      else
        bnd (roles_find o_0 person_1) fun r4 =>
        bif decide (r4 < 0) then
          some (false, 10)
        else
          bnd (roles_past o_0 history_5) fun r5 =>
          bif (!decide (r5 = 0)) then
            some (false, r5)
          else
            bnd (roles_may o_0 person_1 act_2 role_3 time_4 history_5) fun r6 =>
            some (r6, 0)
def ref46_Allowed (o_0 : Org) (person_1 : ByteArray) (act_2 : ByteArray) (role_3 : ByteArray) (time_4 : Int) (l_5 : (List Task)) : Option (Bool × Int) :=
  bnd (ref46_Valid o_0) fun r1 =>
  bif (!r1) then
    some (false, 1)
  else
    bnd (ref02_IsName act_2) fun r2 =>
    bif (!r2) then
      some (false, 1)
    else
      bnd (ref02_IsName role_3) fun r3 =>
      bif (!r3) then
        some (false, 1)
      else
        bnd (ref46_instant time_4) fun r4 =>
        bif (!r4) then
          some (false, 2)
        else
          bnd (ref46_Person o_0 person_1) fun r5 =>
          bif decide (r5 < 0) then
            some (false, 10)
          else
            bnd (ref46_past o_0 l_5) fun r6 =>
            bif (!decide (r6 = 0)) then
              some (false, r6)
            else
              bnd (ref46_may o_0 person_1 act_2 role_3 time_4 l_5) fun r7 =>
              some (r7, 0)
def roles_matched_1_95'L0K {R : Type} (rec : ((Int × Unit × Unit × Unit × Unit × Unit) × ((List (Int × Bool)) × (Unit × Unit) × (Unit × Unit) × ((Unit × Unit × Unit × Unit) × Unit) × (List Int) × (List (Int × Int)) × Unit)) → Option (Bool × (List (Int × Bool)) × (List Int) × (List (Int × Int)))) (i_0 : Int) (v_11 : Int) (seen_1 : (List (Int × Bool))) (v_2 : (List Int)) (v_3 : (List (Int × Int))) (nx : (Int × (List (Int × Bool)) × (List Int) × (List (Int × Int))) → Option R) (dn : ((List (Int × Bool)) × (List Int) × (List (Int × Int))) → Option R) (rt : (Bool × (List (Int × Bool)) × (List Int) × (List (Int × Int))) → Option R) : Option R :=
  bif decide (v_11 < 64) then
    ckB (ix i_0 v_2.length) <|
    ckB (ix i_0 v_2.length) <|
    ckB (decide (0 ≤ v_11)) <|
    bif decide ((bitI .and .u64 (shrI .u64 (v_2.getD (Int.toNat i_0) 0) v_11) 1) = 0) then
      ckB (inR .i64 (v_11 + 1)) <|
      nx ((v_11 + 1), seen_1, v_2, v_3)
    else
      bif ((mfind (.int .i64) v_11 seen_1).getD false) then
        ckB (inR .i64 (v_11 + 1)) <|
        nx ((v_11 + 1), seen_1, v_2, v_3)
      else
        bif (!(mfind (.int .i64) v_11 v_3).isSome) then
          rt (true, (mput (.int .i64) v_11 true seen_1), v_2, (mput (.int .i64) v_11 i_0 v_3))
        else
          bnd (rec ((((mfind (.int .i64) v_11 v_3).getD 0), (), (), (), (), ()), ((mput (.int .i64) v_11 true seen_1), ((), ()), ((), ()), (((), (), (), ()), ()), v_2, v_3, ()))) fun r1 =>
          ckB (decide (r1.2.2.1.length = v_2.length)) <|
          bif r1.1 then
            rt (true, r1.2.1, r1.2.2.1, (mput (.int .i64) v_11 i_0 r1.2.2.2))
          else
            ckB (inR .i64 (v_11 + 1)) <|
            nx ((v_11 + 1), r1.2.1, r1.2.2.1, r1.2.2.2)
  else
    dn (seen_1, v_2, v_3)
def roles_matched_1_95'L0 (rec : ((Int × Unit × Unit × Unit × Unit × Unit) × ((List (Int × Bool)) × (Unit × Unit) × (Unit × Unit) × ((Unit × Unit × Unit × Unit) × Unit) × (List Int) × (List (Int × Int)) × Unit)) → Option (Bool × (List (Int × Bool)) × (List Int) × (List (Int × Int)))) (i_0 : Int) (s0 : (Int × (List (Int × Bool)) × (List Int) × (List (Int × Int)))) : Option (((List (Int × Bool)) × (List Int) × (List (Int × Int))) ⊕ (Bool × (List (Int × Bool)) × (List Int) × (List (Int × Int)))) :=
  loopM (fun a => roles_matched_1_95'L0K rec i_0 a.1 a.2.1 a.2.2.1 a.2.2.2 (fun a' => some (.next a')) (fun e => some (.done e)) (fun r => some (.ret r))) s0
def roles_matched_1_95'L0I : Shp := ⟨[(0, .d true (.int .i64)), (1, .mp 0), (2, .ptr 1), (3, .ptr 2), (4, .ptr 3), (11, .d true (.int .i64))], [.mp (.int .i64) .bool, .cs 100 1 1 (.cons (.own 4) .nil), .cs 117 1 1 (.cons (.mp 5) .nil), .cs 118 1 1 (.cons (.fn 95 (.cons (.ptr 1) (.cons (.ptr 2) (.cons (.ptr 3) .nil)))) .nil), .arr 103 (.fz true) [0] (.int .u64), .mp (.int .i64) (.int .i64)]⟩
def roles_matched_1_95'L0E : Shp := ⟨[], [.mp (.int .i64) .bool, .cs 100 1 1 (.cons (.own 4) .nil), .cs 117 1 1 (.cons (.mp 5) .nil), .cs 118 1 1 (.cons (.fn 95 (.cons (.ptr 1) (.cons (.ptr 2) (.cons (.ptr 3) .nil)))) .nil), .arr 103 (.fz true) [0] (.int .u64), .mp (.int .i64) (.int .i64)]⟩
def roles_matched_1_95'F (rec : ((Int × Unit × Unit × Unit × Unit × Unit) × ((List (Int × Bool)) × (Unit × Unit) × (Unit × Unit) × ((Unit × Unit × Unit × Unit) × Unit) × (List Int) × (List (Int × Int)) × Unit)) → Option (Bool × (List (Int × Bool)) × (List Int) × (List (Int × Int)))) (i_0 : Int) (seen_1 : (List (Int × Bool))) (p_2 : (List Int)) (p_3 : (List (Int × Int))) : Option (Bool × (List (Int × Bool)) × (List Int) × (List (Int × Int))) :=
  bnd (roles_matched_1_95'L0 rec i_0 (0, seen_1, p_2, p_3)) fun oe2 =>
  lk oe2 (fun e2 =>
    some (false, e2.1, e2.2.1, e2.2.2)) (fun r => some r)
def roles_matched_1_95'R (a : ((Int × Unit × Unit × Unit × Unit × Unit) × ((List (Int × Bool)) × (Unit × Unit) × (Unit × Unit) × ((Unit × Unit × Unit × Unit) × Unit) × (List Int) × (List (Int × Int)) × Unit))) : Option (Bool × (List (Int × Bool)) × (List Int) × (List (Int × Int))) :=
  recM (fun (rec : ((Int × Unit × Unit × Unit × Unit × Unit) × ((List (Int × Bool)) × (Unit × Unit) × (Unit × Unit) × ((Unit × Unit × Unit × Unit) × Unit) × (List Int) × (List (Int × Int)) × Unit)) → Option (Bool × (List (Int × Bool)) × (List Int) × (List (Int × Int)))) (a : ((Int × Unit × Unit × Unit × Unit × Unit) × ((List (Int × Bool)) × (Unit × Unit) × (Unit × Unit) × ((Unit × Unit × Unit × Unit) × Unit) × (List Int) × (List (Int × Int)) × Unit))) => roles_matched_1_95'F rec a.1.1 a.2.1 a.2.2.2.2.2.1 a.2.2.2.2.2.2.1) many a
def roles_matched_1_95' (i_0 : Int) (seen_1 : (List (Int × Bool))) (p_2 : (List Int)) (p_3 : (List (Int × Int))) : Option (Bool × (List (Int × Bool)) × (List Int) × (List (Int × Int))) :=
  roles_matched_1_95'R ((i_0, (), (), (), (), ()), (seen_1, ((), ()), ((), ()), (((), (), (), ()), ()), p_2, p_3, ()))
def roles_matchedL0K {R : Type} (v_9 : Int) (v_10 : Int) (k0 : (List Int)) (give_4c1 : (List (Int × Int))) (nx : (Int × (List Int) × (List (Int × Int))) → Option R) (dn : (List Int) → Option R) (rt : (Bool × (List Int)) → Option R) : Option R :=
  bif decide (v_10 < v_9) then
    bnd (roles_matched_1_95' v_10 [] k0 give_4c1) fun r1 =>
    ckB (decide (r1.2.2.1.length = k0.length)) <|
    bif (!r1.1) then
      rt (false, r1.2.2.1)
    else
      ckB (inR .i64 (v_10 + 1)) <|
      nx ((v_10 + 1), r1.2.2.1, r1.2.2.2)
  else
    dn k0
def roles_matchedL0 (v_9 : Int) (s0 : (Int × (List Int) × (List (Int × Int)))) : Option ((List Int) ⊕ (Bool × (List Int))) :=
  loopM (fun a => roles_matchedL0K v_9 a.1 a.2.1 a.2.2 (fun a' => some (.next a')) (fun e => some (.done e)) (fun r => some (.ret r))) s0
def roles_matchedL0I : Shp := ⟨[(4, .ptr 1), (9, .d true (.int .i64)), (10, .d true (.int .i64))], [.arr 103 (.fz true) [0] (.int .u64), .cs 118 1 1 (.cons (.fn 95 (.cons (.ptr 2) (.cons (.ptr 3) (.cons (.ptr 1) .nil)))) .nil), .cs 100 1 1 (.cons (.own 0) .nil), .cs 117 1 1 (.cons (.mp 4) .nil), .mp (.int .i64) (.int .i64)]⟩
def roles_matchedL0E : Shp := ⟨[], [.arr 103 (.fz true) [0] (.int .u64)]⟩
def roles_matched (able_0 : (List Int)) : Option (Bool × (List Int)) :=
  bnd (roles_matchedL0 (able_0.length : Int) (0, able_0, [])) fun oe2 =>
  lk oe2 (fun e2 =>
    some (true, e2)) (fun r => some r)
def slices_Clone_uint64_uint64_f (s_0 : (List Int)) : Option (List Int) :=
  bif decide ((s_0.length : Int) = 0) then
    some []
  else
    ckB (room (0 + s_0.length) 8) <|
    some ([] ++ s_0)
def slices_Clone_uint64_uint64_t (s_0 : (List Int)) : Option (List Int) :=
  ckB (room (0 + s_0.length) 8) <|
  some ([] ++ s_0)
def slices_Clone_uint64_uint64 (s_0 : (List Int)) : Option (List Int) := slices_Clone_uint64_uint64_t s_0
def roles_AssignL0K {R : Type} (i_15 : Int) (k_16 : Int) (v_40 : Int) (v_41 : Int) (v_45 : (List Person)) (v_46 : Int) (v_47 : Int) (v_66 : Int) (o_50 : (List Person)) (o_51 : (List Delegation)) (o_52 : (List Duty)) (can_13 : (List Int)) (out_14 : (List ByteArray)) (p_170 : ByteArray) (p_171 : (List ByteArray)) (v_67 : Int) (rest_18 : (List Int)) (nx : (Int × (List Int)) → Option R) (dn : (List Int) → Option R) (rt : (Int × (List ByteArray)) → Option R) : Option R :=
  bif decide (v_67 < v_66) then
    ckB (ix v_67 rest_18.length) <|
    ckB (ix v_67 rest_18.length) <|
    ckB (decide (0 ≤ k_16)) <|
    ckB (ix v_67 rest_18.length) <|
    ckB (ix v_67 rest_18.length) <|
    ckB (inR .i64 (v_67 + 1)) <|
    nx ((v_67 + 1), (rest_18.set (Int.toNat v_67) (bitI .andNot .u64 (rest_18.getD (Int.toNat v_67) 0) (shlI .u64 1 k_16))))
  else
    dn rest_18
def roles_AssignL0 (i_15 : Int) (k_16 : Int) (v_40 : Int) (v_41 : Int) (v_45 : (List Person)) (v_46 : Int) (v_47 : Int) (v_66 : Int) (o_50 : (List Person)) (o_51 : (List Delegation)) (o_52 : (List Duty)) (can_13 : (List Int)) (out_14 : (List ByteArray)) (p_170 : ByteArray) (p_171 : (List ByteArray)) (s0 : (Int × (List Int))) : Option ((List Int) ⊕ (Int × (List ByteArray))) :=
  loopM (fun a => roles_AssignL0K i_15 k_16 v_40 v_41 v_45 v_46 v_47 v_66 o_50 o_51 o_52 can_13 out_14 p_170 p_171 a.1 a.2 (fun a' => some (.next a')) (fun e => some (.done e)) (fun r => some (.ret r))) s0
def roles_AssignL0I : Shp := ⟨[(5, .ptr 0), (13, .own 1), (14, .own 2), (15, .d true (.int .i64)), (16, .d true (.int .i64)), (17, .ptr 3), (18, .own 4), (40, .d true (.int .i64)), (41, .d true (.int .i64)), (45, .d true (.slice Person.ty)), (46, .d true (.int .i64)), (47, .d true (.int .i64)), (66, .d true (.int .i64)), (67, .d true (.int .i64))], [.cs 26 3 1 (.cons (.d true (.slice Person.ty)) (.cons (.d true (.slice Delegation.ty)) (.cons (.d true (.slice Duty.ty)) .nil))), .arr 103 (.fz true) [0] (.int .u64), .arr 9 (.fz true) [0] .str, .cs 75 2 1 (.cons (.d true .str) (.cons (.d true (.slice .str)) .nil)), .arr 103 (.fz true) [0] (.int .u64)]⟩
def roles_AssignL0E : Shp := ⟨[(5, .ptr 0), (13, .own 1), (14, .own 2), (15, .d true (.int .i64)), (17, .ptr 3), (18, .own 4), (40, .d true (.int .i64)), (41, .d true (.int .i64)), (45, .d true (.slice Person.ty)), (46, .d true (.int .i64)), (47, .d true (.int .i64))], [.cs 26 3 1 (.cons (.d true (.slice Person.ty)) (.cons (.d true (.slice Delegation.ty)) (.cons (.d true (.slice Duty.ty)) .nil))), .arr 103 (.fz true) [0] (.int .u64), .arr 9 (.fz true) [0] .str, .cs 75 2 1 (.cons (.d true .str) (.cons (.d true (.slice .str)) .nil)), .arr 103 (.fz true) [0] (.int .u64)]⟩
def roles_AssignL1K {R : Type} (i_15 : Int) (v_40 : Int) (v_41 : Int) (v_45 : (List Person)) (v_46 : Int) (o_50 : (List Person)) (o_51 : (List Delegation)) (o_52 : (List Duty)) (can_13 : (List Int)) (out_14 : (List ByteArray)) (v_47 : Int) (nx : Int → Option R) (dn : ((List Int) × (List ByteArray)) → Option R) (rt : (Int × (List ByteArray)) → Option R) : Option R :=
  bif decide (v_47 < v_46) then
    ckB (ix v_47 v_45.length) <|
    ckB (ix v_47 v_45.length) <|
    ckB (ix i_15 can_13.length) <|
    ckB (ix i_15 can_13.length) <|
    ckB (decide (0 ≤ v_47)) <|
    bif decide ((bitI .and .u64 (shrI .u64 (can_13.getD (Int.toNat i_15) 0) v_47) 1) = 0) then
      ckB (inR .i64 (v_47 + 1)) <|
      nx (v_47 + 1)
    else
      ckB (inR .i64 (i_15 + 1)) <|
      ckB (cut (i_15 + 1) (can_13.length : Int) can_13.length) <|
      bnd (slices_Clone_uint64_uint64 ((can_13.drop (Int.toNat (i_15 + 1))).take ((Int.toNat (can_13.length : Int)) - (Int.toNat (i_15 + 1))))) fun r4 =>
      bnd (roles_AssignL0 i_15 v_47 v_40 v_41 v_45 v_46 v_47 (r4.length : Int) o_50 o_51 o_52 can_13 out_14 (v_45.getD (Int.toNat v_47) Person.z).1 (v_45.getD (Int.toNat v_47) Person.z).2.1 (0, r4)) fun oe5 =>
      lk oe5 (fun e5 =>
        bnd (roles_matched e5) fun r6 =>
        ckB (decide (r6.2.length = e5.length)) <|
        bif r6.1 then
          ckB (room (out_14.length + 1) 16) <|
          ckB (inR .i64 (i_15 + 1)) <|
          ckB (cut (i_15 + 1) (can_13.length : Int) can_13.length) <|
          dn ((copyL can_13 (Int.toNat (i_15 + 1)) ((Int.toNat (can_13.length : Int)) - (Int.toNat (i_15 + 1))) r6.2), (out_14 ++ [(v_45.getD (Int.toNat v_47) Person.z).1]))
        else
          ckB (inR .i64 (v_47 + 1)) <|
          nx (v_47 + 1)) (fun r => rt r)
  else
    dn (can_13, out_14)
def roles_AssignL1 (i_15 : Int) (v_40 : Int) (v_41 : Int) (v_45 : (List Person)) (v_46 : Int) (o_50 : (List Person)) (o_51 : (List Delegation)) (o_52 : (List Duty)) (can_13 : (List Int)) (out_14 : (List ByteArray)) (s0 : Int) : Option (((List Int) × (List ByteArray)) ⊕ (Int × (List ByteArray))) :=
  loopM (fun a => roles_AssignL1K i_15 v_40 v_41 v_45 v_46 o_50 o_51 o_52 can_13 out_14 a (fun a' => some (.next a')) (fun e => some (.done e)) (fun r => some (.ret r))) s0
def roles_AssignL1I : Shp := ⟨[(5, .ptr 0), (13, .own 1), (14, .own 2), (15, .d true (.int .i64)), (40, .d true (.int .i64)), (41, .d true (.int .i64)), (45, .d true (.slice Person.ty)), (46, .d true (.int .i64)), (47, .d true (.int .i64))], [.cs 26 3 1 (.cons (.d true (.slice Person.ty)) (.cons (.d true (.slice Delegation.ty)) (.cons (.d true (.slice Duty.ty)) .nil))), .arr 103 (.fz true) [0] (.int .u64), .arr 9 (.fz true) [0] .str]⟩
def roles_AssignL1E : Shp := ⟨[(5, .ptr 0), (13, .own 1), (14, .own 2), (40, .d true (.int .i64)), (41, .d true (.int .i64))], [.cs 26 3 1 (.cons (.d true (.slice Person.ty)) (.cons (.d true (.slice Delegation.ty)) (.cons (.d true (.slice Duty.ty)) .nil))), .arr 103 (.fz true) [0] (.int .u64), .arr 9 (.fz true) [0] .str]⟩
def roles_AssignL2K {R : Type} (v_40 : Int) (o_50 : (List Person)) (o_51 : (List Delegation)) (o_52 : (List Duty)) (v_41 : Int) (can_13 : (List Int)) (out_14 : (List ByteArray)) (nx : (Int × (List Int) × (List ByteArray)) → Option R) (dn : (List ByteArray) → Option R) (rt : (Int × (List ByteArray)) → Option R) : Option R :=
  bif decide (v_41 < v_40) then
    bnd (roles_AssignL1 v_41 v_40 v_41 o_50 (o_50.length : Int) o_50 o_51 o_52 can_13 out_14 0) fun oe7 =>
    lk oe7 (fun e7 =>
      ckB (inR .i64 (v_41 + 1)) <|
      nx ((v_41 + 1), e7.1, e7.2)) (fun r => rt r)
  else
    dn out_14
def roles_AssignL2 (v_40 : Int) (o_50 : (List Person)) (o_51 : (List Delegation)) (o_52 : (List Duty)) (s0 : (Int × (List Int) × (List ByteArray))) : Option ((List ByteArray) ⊕ (Int × (List ByteArray))) :=
  loopM (fun a => roles_AssignL2K v_40 o_50 o_51 o_52 a.1 a.2.1 a.2.2 (fun a' => some (.next a')) (fun e => some (.done e)) (fun r => some (.ret r))) s0
def roles_AssignL2I : Shp := ⟨[(5, .ptr 0), (13, .own 1), (14, .own 2), (40, .d true (.int .i64)), (41, .d true (.int .i64))], [.cs 26 3 1 (.cons (.d true (.slice Person.ty)) (.cons (.d true (.slice Delegation.ty)) (.cons (.d true (.slice Duty.ty)) .nil))), .arr 103 (.fz true) [0] (.int .u64), .arr 9 (.fz true) [0] .str]⟩
def roles_AssignL2E : Shp := ⟨[(14, .own 0)], [.arr 9 (.fz true) [0] .str]⟩
def roles_Assign (o_0 : Org) (acts_1 : (List ByteArray)) (roles_2 : (List ByteArray)) (time_3 : Int) (history_4 : (List Task)) : Option (Int × (List ByteArray)) :=
  bnd (roles_given o_0 acts_1 roles_2 time_3 history_4) fun r1 =>
  bif (!decide (r1 = 0)) then
    some (r1, [])
  else
    bnd (roles_able o_0 acts_1 roles_2 time_3 history_4) fun r2 =>
    bnd (roles_matched r2) fun r3 =>
    ckB (decide (r3.2.length = r2.length)) <|
    bif (!r3.1) then
      some (10, [])
    else
      bnd (roles_AssignL2 (r3.2.length : Int) o_0.1 o_0.2.1 o_0.2.2.1 (0, r3.2, [])) fun oe8 =>
      lk oe8 (fun e8 =>
        some (0, e8)) (fun r => some r)
def ref46_ableL0K {R : Type} (acts_1 : (List ByteArray)) (roles_2 : (List ByteArray)) (time_3 : Int) (l_4 : (List Task)) (i_12 : Int) (o_50 : (List Person)) (o_51 : (List Delegation)) (o_52 : (List Duty)) (out_11 : (List (List Bool))) (k_14 : Int) (row_13 : (List Bool)) (nx : (Int × (List Bool)) → Option R) (dn : (List Bool) → Option R) (rt : (List (List Bool)) → Option R) : Option R :=
  bif decide (k_14 < (o_50.length : Int)) then
    ckB (ix k_14 o_50.length) <|
    ckB (ix k_14 o_50.length) <|
    ckB (ix i_12 acts_1.length) <|
    ckB (ix i_12 acts_1.length) <|
    ckB (ix i_12 roles_2.length) <|
    ckB (ix i_12 roles_2.length) <|
    bnd (ref46_may (o_50, o_51, o_52, ()) (o_50.getD (Int.toNat k_14) Person.z).1 (acts_1.getD (Int.toNat i_12) ⟨#[]⟩) (roles_2.getD (Int.toNat i_12) ⟨#[]⟩) time_3 l_4) fun r1 =>
    ckB (room (row_13.length + 1) 1) <|
    ckB (inR .i64 (k_14 + 1)) <|
    nx ((k_14 + 1), (row_13 ++ [r1]))
  else
    dn row_13
def ref46_ableL0 (acts_1 : (List ByteArray)) (roles_2 : (List ByteArray)) (time_3 : Int) (l_4 : (List Task)) (i_12 : Int) (o_50 : (List Person)) (o_51 : (List Delegation)) (o_52 : (List Duty)) (out_11 : (List (List Bool))) (s0 : (Int × (List Bool))) : Option ((List Bool) ⊕ (List (List Bool))) :=
  loopM (fun a => ref46_ableL0K acts_1 roles_2 time_3 l_4 i_12 o_50 o_51 o_52 out_11 a.1 a.2 (fun a' => some (.next a')) (fun e => some (.done e)) (fun r => some (.ret r))) s0
def ref46_ableL1K {R : Type} (acts_1 : (List ByteArray)) (roles_2 : (List ByteArray)) (time_3 : Int) (l_4 : (List Task)) (o_50 : (List Person)) (o_51 : (List Delegation)) (o_52 : (List Duty)) (i_12 : Int) (out_11 : (List (List Bool))) (nx : (Int × (List (List Bool))) → Option R) (dn : (List (List Bool)) → Option R) (rt : (List (List Bool)) → Option R) : Option R :=
  bif decide (i_12 < (acts_1.length : Int)) then
    bnd (ref46_ableL0 acts_1 roles_2 time_3 l_4 i_12 o_50 o_51 o_52 out_11 (0, [])) fun oe2 =>
    lk oe2 (fun e2 =>
      ckB (room (out_11.length + 1) 24) <|
      ckB (inR .i64 (i_12 + 1)) <|
      nx ((i_12 + 1), (out_11 ++ [e2]))) (fun r => rt r)
  else
    dn out_11
def ref46_ableL1 (acts_1 : (List ByteArray)) (roles_2 : (List ByteArray)) (time_3 : Int) (l_4 : (List Task)) (o_50 : (List Person)) (o_51 : (List Delegation)) (o_52 : (List Duty)) (s0 : (Int × (List (List Bool)))) : Option ((List (List Bool)) ⊕ (List (List Bool))) :=
  loopM (fun a => ref46_ableL1K acts_1 roles_2 time_3 l_4 o_50 o_51 o_52 a.1 a.2 (fun a' => some (.next a')) (fun e => some (.done e)) (fun r => some (.ret r))) s0
def ref46_able (o_0 : Org) (acts_1 : (List ByteArray)) (roles_2 : (List ByteArray)) (time_3 : Int) (l_4 : (List Task)) : Option (List (List Bool)) :=
  bnd (ref46_ableL1 acts_1 roles_2 time_3 l_4 o_0.1 o_0.2.1 o_0.2.2.1 (0, [])) fun oe3 =>
  lk oe3 (fun e3 =>
    some e3) (fun r => some r)
def ref46_membersL0K {R : Type} (set_0 : Int) (i_4 : Int) (out_3 : (List Int)) (nx : (Int × (List Int)) → Option R) (dn : (List Int) → Option R) (rt : (List Int) → Option R) : Option R :=
  bif decide (i_4 < 12) then
    ckB (decide (0 ≤ i_4)) <|
    bif decide ((bitI .and .i64 (shrI .i64 set_0 i_4) 1) = 1) then
      ckB (room (out_3.length + 1) 8) <|
      ckB (inR .i64 (i_4 + 1)) <|
      nx ((i_4 + 1), (out_3 ++ [i_4]))
    else
      ckB (inR .i64 (i_4 + 1)) <|
      nx ((i_4 + 1), out_3)
  else
    dn out_3
def ref46_membersL0 (set_0 : Int) (s0 : (Int × (List Int))) : Option ((List Int) ⊕ (List Int)) :=
  loopM (fun a => ref46_membersL0K set_0 a.1 a.2 (fun a' => some (.next a')) (fun e => some (.done e)) (fun r => some (.ret r))) s0
def ref46_members (set_0 : Int) : Option (List Int) :=
  bnd (ref46_membersL0 set_0 (0, [])) fun oe1 =>
  lk oe1 (fun e1 =>
    some e1) (fun r => some r)
def ref46_countL0K {R : Type} (rows_0 : (List (List Bool))) (people_1 : Int) (set_2 : Int) (n_7 : Int) (k_8 : Int) (some_9 : Bool) (i_10 : Int) (nx : (Bool × Int) → Option R) (dn : Bool → Option R) (rt : Int → Option R) : Option R :=
  bif decide (i_10 < (rows_0.length : Int)) then
    bif some_9 then
      ckB (inR .i64 (i_10 + 1)) <|
      nx (true, (i_10 + 1))
    else
      ckB (decide (0 ≤ i_10)) <|
      bif decide ((bitI .and .i64 (shrI .i64 set_2 i_10) 1) = 1) then
        ckB (ix i_10 rows_0.length) <|
        ckB (ix i_10 rows_0.length) <|
        ckB (ix k_8 (rows_0.getD (Int.toNat i_10) []).length) <|
        ckB (ix k_8 (rows_0.getD (Int.toNat i_10) []).length) <|
        ckB (inR .i64 (i_10 + 1)) <|
        nx (((rows_0.getD (Int.toNat i_10) []).getD (Int.toNat k_8) false), (i_10 + 1))
      else
        ckB (inR .i64 (i_10 + 1)) <|
        nx (false, (i_10 + 1))
  else
    dn some_9
def ref46_countL0 (rows_0 : (List (List Bool))) (people_1 : Int) (set_2 : Int) (n_7 : Int) (k_8 : Int) (s0 : (Bool × Int)) : Option (Bool ⊕ Int) :=
  loopM (fun a => ref46_countL0K rows_0 people_1 set_2 n_7 k_8 a.1 a.2 (fun a' => some (.next a')) (fun e => some (.done e)) (fun r => some (.ret r))) s0
def ref46_countL1K {R : Type} (rows_0 : (List (List Bool))) (people_1 : Int) (set_2 : Int) (n_7 : Int) (k_8 : Int) (nx : (Int × Int) → Option R) (dn : Int → Option R) (rt : Int → Option R) : Option R :=
  bif decide (k_8 < people_1) then
    bnd (ref46_countL0 rows_0 people_1 set_2 n_7 k_8 (false, 0)) fun oe1 =>
    lk oe1 (fun e1 =>
      bif e1 then
        ckB (inR .i64 (n_7 + 1)) <|
        ckB (inR .i64 (k_8 + 1)) <|
        nx ((n_7 + 1), (k_8 + 1))
      else
        ckB (inR .i64 (k_8 + 1)) <|
        nx (n_7, (k_8 + 1))) (fun r => rt r)
  else
    dn n_7
def ref46_countL1 (rows_0 : (List (List Bool))) (people_1 : Int) (set_2 : Int) (s0 : (Int × Int)) : Option (Int ⊕ Int) :=
  loopM (fun a => ref46_countL1K rows_0 people_1 set_2 a.1 a.2 (fun a' => some (.next a')) (fun e => some (.done e)) (fun r => some (.ret r))) s0
def ref46_count (rows_0 : (List (List Bool))) (people_1 : Int) (set_2 : Int) : Option Int :=
  bnd (ref46_countL1 rows_0 people_1 set_2 (0, 0)) fun oe2 =>
  lk oe2 (fun e2 =>
    some e2) (fun r => some r)
def ref46_firstL0K {R : Type} (a_0 : (List Int)) (b_1 : (List Int)) (i_5 : Int) (nx : Int → Option R) (dn : Unit → Option R) (rt : Bool → Option R) : Option R :=
  bif decide (i_5 < (a_0.length : Int)) then
    ckB (ix i_5 a_0.length) <|
    ckB (ix i_5 a_0.length) <|
    ckB (ix i_5 b_1.length) <|
    ckB (ix i_5 b_1.length) <|
    bif (!decide ((a_0.getD (Int.toNat i_5) 0) = (b_1.getD (Int.toNat i_5) 0))) then
      ckB (ix i_5 a_0.length) <|
      ckB (ix i_5 a_0.length) <|
      ckB (ix i_5 b_1.length) <|
      ckB (ix i_5 b_1.length) <|
      rt (decide ((a_0.getD (Int.toNat i_5) 0) < (b_1.getD (Int.toNat i_5) 0)))
    else
      ckB (inR .i64 (i_5 + 1)) <|
      nx (i_5 + 1)
  else
    dn ()
def ref46_firstL0 (a_0 : (List Int)) (b_1 : (List Int)) (s0 : Int) : Option (Unit ⊕ Bool) :=
  loopM (fun a => ref46_firstL0K a_0 b_1 a (fun a' => some (.next a')) (fun e => some (.done e)) (fun r => some (.ret r))) s0
def ref46_first (a_0 : (List Int)) (b_1 : (List Int)) : Option Bool :=
  bif (!decide ((a_0.length : Int) = (b_1.length : Int))) then
    some (decide ((a_0.length : Int) < (b_1.length : Int)))
  else
    bnd (ref46_firstL0 a_0 b_1 0) fun oe1 =>
    lk oe1 (fun e1 =>
      some false) (fun r => some r)
def ref46_blockingL0K {R : Type} (rows_0 : (List (List Bool))) (people_1 : Int) (best_6 : (List Int)) (some_7 : Bool) (set_8 : Int) (nx : ((List Int) × Bool × Int) → Option R) (dn : ((List Int) × Bool) → Option R) (rt : ((List Int) × Bool) → Option R) : Option R :=
  ckB (decide (0 ≤ (rows_0.length : Int))) <|
  bif decide (set_8 < (shlI .i64 1 (rows_0.length : Int))) then
    bnd (ref46_members set_8) fun r1 =>
    bnd (ref46_count rows_0 people_1 set_8) fun r2 =>
    bif decide (r2 < (r1.length : Int)) then
      bif (!some_7) then
        ckB (inR .i64 (set_8 + 1)) <|
        nx (r1, true, (set_8 + 1))
      else
        bnd (ref46_first r1 best_6) fun r3 =>
        bif r3 then
          ckB (inR .i64 (set_8 + 1)) <|
          nx (r1, true, (set_8 + 1))
        else
          ckB (inR .i64 (set_8 + 1)) <|
          nx (best_6, some_7, (set_8 + 1))
    else
      ckB (inR .i64 (set_8 + 1)) <|
      nx (best_6, some_7, (set_8 + 1))
  else
    dn (best_6, some_7)
def ref46_blockingL0 (rows_0 : (List (List Bool))) (people_1 : Int) (s0 : ((List Int) × Bool × Int)) : Option (((List Int) × Bool) ⊕ ((List Int) × Bool)) :=
  loopM (fun a => ref46_blockingL0K rows_0 people_1 a.1 a.2.1 a.2.2 (fun a' => some (.next a')) (fun e => some (.done e)) (fun r => some (.ret r))) s0
def ref46_blocking (rows_0 : (List (List Bool))) (people_1 : Int) : Option ((List Int) × Bool) :=
  bnd (ref46_blockingL0 rows_0 people_1 ([], false, 1)) fun oe4 =>
  lk oe4 (fun e4 =>
    some (e4.1, e4.2)) (fun r => some r)
def ref46_AssignL0K {R : Type} (n_14 : Int) (i_18 : Int) (k_19 : Int) (o_50 : (List Person)) (o_51 : (List Delegation)) (o_52 : (List Duty)) (rows_13 : (List (List Bool))) (out_17 : (List ByteArray)) (j_21 : Int) (rest_20 : (List (List Bool))) (nx : (Int × (List (List Bool))) → Option R) (dn : (List (List Bool)) → Option R) (rt : (Int × (List ByteArray)) → Option R) : Option R :=
  bif decide (j_21 < (rows_13.length : Int)) then
    ckB (ix j_21 rows_13.length) <|
    ckB (ix j_21 rows_13.length) <|
    ckB (room (0 + (rows_13.getD (Int.toNat j_21) []).length) 1) <|
    ckB (ix k_19 ([] ++ (rows_13.getD (Int.toNat j_21) [])).length) <|
    ckB (ix k_19 ([] ++ (rows_13.getD (Int.toNat j_21) [])).length) <|
    ckB (room (rest_20.length + 1) 24) <|
    ckB (inR .i64 (j_21 + 1)) <|
    nx ((j_21 + 1), (rest_20 ++ [(([] ++ (rows_13.getD (Int.toNat j_21) [])).set (Int.toNat k_19) false)]))
  else
    dn rest_20
def ref46_AssignL0 (n_14 : Int) (i_18 : Int) (k_19 : Int) (o_50 : (List Person)) (o_51 : (List Delegation)) (o_52 : (List Duty)) (rows_13 : (List (List Bool))) (out_17 : (List ByteArray)) (s0 : (Int × (List (List Bool)))) : Option ((List (List Bool)) ⊕ (Int × (List ByteArray))) :=
  loopM (fun a => ref46_AssignL0K n_14 i_18 k_19 o_50 o_51 o_52 rows_13 out_17 a.1 a.2 (fun a' => some (.next a')) (fun e => some (.done e)) (fun r => some (.ret r))) s0
def ref46_AssignL1K {R : Type} (n_14 : Int) (i_18 : Int) (rest_20 : (List (List Bool))) (o_50 : (List Person)) (o_51 : (List Delegation)) (o_52 : (List Duty)) (out_17 : (List ByteArray)) (j_25 : Int) (rows_13 : (List (List Bool))) (nx : (Int × (List (List Bool))) → Option R) (dn : (List (List Bool)) → Option R) (rt : (Int × (List ByteArray)) → Option R) : Option R :=
  bif decide (j_25 < (rows_13.length : Int)) then
    ckB (inR .i64 (j_25 - i_18)) <|
    ckB (inR .i64 ((j_25 - i_18) - 1)) <|
    ckB (ix ((j_25 - i_18) - 1) rest_20.length) <|
    ckB (ix ((j_25 - i_18) - 1) rest_20.length) <|
    ckB (ix j_25 rows_13.length) <|
    ckB (ix j_25 rows_13.length) <|
    ckB (inR .i64 (j_25 + 1)) <|
    nx ((j_25 + 1), (rows_13.set (Int.toNat j_25) (rest_20.getD (Int.toNat ((j_25 - i_18) - 1)) [])))
  else
    dn rows_13
def ref46_AssignL1 (n_14 : Int) (i_18 : Int) (rest_20 : (List (List Bool))) (o_50 : (List Person)) (o_51 : (List Delegation)) (o_52 : (List Duty)) (out_17 : (List ByteArray)) (s0 : (Int × (List (List Bool)))) : Option ((List (List Bool)) ⊕ (Int × (List ByteArray))) :=
  loopM (fun a => ref46_AssignL1K n_14 i_18 rest_20 o_50 o_51 o_52 out_17 a.1 a.2 (fun a' => some (.next a')) (fun e => some (.done e)) (fun r => some (.ret r))) s0
def ref46_AssignL2K {R : Type} (n_14 : Int) (i_18 : Int) (o_50 : (List Person)) (o_51 : (List Delegation)) (o_52 : (List Duty)) (rows_13 : (List (List Bool))) (out_17 : (List ByteArray)) (k_19 : Int) (nx : Int → Option R) (dn : ((List (List Bool)) × (List ByteArray)) → Option R) (rt : (Int × (List ByteArray)) → Option R) : Option R :=
  bif decide (k_19 < n_14) then
    ckB (ix i_18 rows_13.length) <|
    ckB (ix i_18 rows_13.length) <|
    ckB (ix k_19 (rows_13.getD (Int.toNat i_18) []).length) <|
    ckB (ix k_19 (rows_13.getD (Int.toNat i_18) []).length) <|
    bif (!((rows_13.getD (Int.toNat i_18) []).getD (Int.toNat k_19) false)) then
      ckB (inR .i64 (k_19 + 1)) <|
      nx (k_19 + 1)
    else
      ckB (inR .i64 (i_18 + 1)) <|
      bnd (ref46_AssignL0 n_14 i_18 k_19 o_50 o_51 o_52 rows_13 out_17 ((i_18 + 1), [])) fun oe4 =>
      lk oe4 (fun e4 =>
        bnd (ref46_blocking e4 n_14) fun r5 =>
        bif (!r5.2) then
          ckB (ix k_19 o_50.length) <|
          ckB (ix k_19 o_50.length) <|
          ckB (room (out_17.length + 1) 16) <|
          ckB (inR .i64 (i_18 + 1)) <|
          bnd (ref46_AssignL1 n_14 i_18 e4 o_50 o_51 o_52 (out_17 ++ [(o_50.getD (Int.toNat k_19) Person.z).1]) ((i_18 + 1), rows_13)) fun oe6 =>
          lk oe6 (fun e6 =>
            dn (e6, (out_17 ++ [(o_50.getD (Int.toNat k_19) Person.z).1]))) (fun r => rt r)
        else
          ckB (inR .i64 (k_19 + 1)) <|
          nx (k_19 + 1)) (fun r => rt r)
  else
    dn (rows_13, out_17)
def ref46_AssignL2 (n_14 : Int) (i_18 : Int) (o_50 : (List Person)) (o_51 : (List Delegation)) (o_52 : (List Duty)) (rows_13 : (List (List Bool))) (out_17 : (List ByteArray)) (s0 : Int) : Option (((List (List Bool)) × (List ByteArray)) ⊕ (Int × (List ByteArray))) :=
  loopM (fun a => ref46_AssignL2K n_14 i_18 o_50 o_51 o_52 rows_13 out_17 a (fun a' => some (.next a')) (fun e => some (.done e)) (fun r => some (.ret r))) s0
def ref46_AssignL3K {R : Type} (n_14 : Int) (o_50 : (List Person)) (o_51 : (List Delegation)) (o_52 : (List Duty)) (i_18 : Int) (rows_13 : (List (List Bool))) (out_17 : (List ByteArray)) (nx : (Int × (List (List Bool)) × (List ByteArray)) → Option R) (dn : (List ByteArray) → Option R) (rt : (Int × (List ByteArray)) → Option R) : Option R :=
  bif decide (i_18 < (rows_13.length : Int)) then
    bnd (ref46_AssignL2 n_14 i_18 o_50 o_51 o_52 rows_13 out_17 0) fun oe7 =>
    lk oe7 (fun e7 =>
      ckB (inR .i64 (i_18 + 1)) <|
      nx ((i_18 + 1), e7.1, e7.2)) (fun r => rt r)
  else
    dn out_17
def ref46_AssignL3 (n_14 : Int) (o_50 : (List Person)) (o_51 : (List Delegation)) (o_52 : (List Duty)) (s0 : (Int × (List (List Bool)) × (List ByteArray))) : Option ((List ByteArray) ⊕ (Int × (List ByteArray))) :=
  loopM (fun a => ref46_AssignL3K n_14 o_50 o_51 o_52 a.1 a.2.1 a.2.2 (fun a' => some (.next a')) (fun e => some (.done e)) (fun r => some (.ret r))) s0
def ref46_Assign (o_0 : Org) (acts_1 : (List ByteArray)) (roles_2 : (List ByteArray)) (time_3 : Int) (l_4 : (List Task)) : Option (Int × (List ByteArray)) :=
  bnd (ref46_fault o_0 acts_1 roles_2 time_3 l_4) fun r1 =>
  bif (!decide (r1 = 0)) then
    some (r1, [])
  else
    bnd (ref46_able o_0 acts_1 roles_2 time_3 l_4) fun r2 =>
    bnd (ref46_blocking r2 (o_0.1.length : Int)) fun r3 =>
    bif r3.2 then
      some (10, [])
    else
      bnd (ref46_AssignL3 (o_0.1.length : Int) o_0.1 o_0.2.1 o_0.2.2.1 (0, r2, [])) fun oe8 =>
      lk oe8 (fun e8 =>
        some (0, e8)) (fun r => some r)
def ref46_Blocking (o_0 : Org) (acts_1 : (List ByteArray)) (roles_2 : (List ByteArray)) (time_3 : Int) (l_4 : (List Task)) : Option ((List Int) × Int) :=
  bnd (ref46_fault o_0 acts_1 roles_2 time_3 l_4) fun r1 =>
  bif (!decide (r1 = 0)) then
    some ([], r1)
  else
    bnd (ref46_able o_0 acts_1 roles_2 time_3 l_4) fun r2 =>
    bnd (ref46_blocking r2 (o_0.1.length : Int)) fun r3 =>
    bif (!r3.2) then
      some ([], 10)
    else
      some (r3.1, 0)
def law46_RolesEitherT0K {R : Type} (acts_1 : (List ByteArray)) (needs_2 : (List ByteArray)) (time_3 : Int) (history_4 : (List Task)) (l_11 : (List ByteArray)) (e_12 : Int) (set_13 : (List Int)) (f_14 : Int) (v_76 : Bool) (o_50 : (List Person)) (o_51 : (List Delegation)) (o_52 : (List Duty)) (dn : Unit → Option R) (rt : Bool → Option R) : Option R :=
  bif v_76 then
    bif decide (e_12 = f_14) then
      bif decide ((l_11.length : Int) = 0) then
        rt (decide ((set_13.length : Int) = 0))
      else
        rt false
    else
      rt false
  else
    dn ()
def law46_RolesEitherT0 (acts_1 : (List ByteArray)) (needs_2 : (List ByteArray)) (time_3 : Int) (history_4 : (List Task)) (l_11 : (List ByteArray)) (e_12 : Int) (set_13 : (List Int)) (f_14 : Int) (v_76 : Bool) (o_50 : (List Person)) (o_51 : (List Delegation)) (o_52 : (List Duty)) : Option (Unit ⊕ Bool) :=
  law46_RolesEitherT0K acts_1 needs_2 time_3 history_4 l_11 e_12 set_13 f_14 v_76 o_50 o_51 o_52 (fun e => some (.inl e)) (fun r => some (.inr r))
def law46_RolesEitherT0I : Shp := ⟨[(1, .d true (.slice .str)), (2, .d true (.slice .str)), (3, .d true (.int .i64)), (4, .d true (.slice Task.ty)), (5, .ptr 0), (11, .d true (.slice .str)), (12, .d true (.int .i64)), (13, .nl false (.d true (.slice (.int .i64)))), (14, .d true (.int .i64)), (76, .d true .bool)], [.cs 26 3 1 (.cons (.d true (.slice Person.ty)) (.cons (.d true (.slice Delegation.ty)) (.cons (.d true (.slice Duty.ty)) .nil)))]⟩
def law46_RolesEitherT0E : Shp := ⟨[(1, .d true (.slice .str)), (2, .d true (.slice .str)), (3, .d true (.int .i64)), (4, .d true (.slice Task.ty)), (5, .ptr 0), (11, .d true (.slice .str)), (12, .d true (.int .i64)), (13, .nl false (.d true (.slice (.int .i64)))), (14, .d true (.int .i64))], [.cs 26 3 1 (.cons (.d true (.slice Person.ty)) (.cons (.d true (.slice Delegation.ty)) (.cons (.d true (.slice Duty.ty)) .nil)))]⟩
def law46_RolesEitherL1K {R : Type} (acts_1 : (List ByteArray)) (needs_2 : (List ByteArray)) (time_3 : Int) (history_4 : (List Task)) (set_13 : (List Int)) (skip_15 : Int) (n_17 : Int) (k_19 : Int) (v_117 : (List Int)) (v_118 : Int) (v_119 : Int) (v_151 : (List Person)) (v_152 : Int) (o_50 : (List Person)) (o_51 : (List Delegation)) (o_52 : (List Duty)) (v_153 : Int) (people_16 : (List (ByteArray × Bool))) (nx : (Int × (List (ByteArray × Bool))) → Option R) (dn : (List (ByteArray × Bool)) → Option R) (rt : Bool → Option R) : Option R :=
  bif decide (v_153 < v_152) then
    ckB (ix v_153 v_151.length) <|
    ckB (ix v_153 v_151.length) <|
    ckB (ix k_19 acts_1.length) <|
    ckB (ix k_19 acts_1.length) <|
    ckB (ix k_19 needs_2.length) <|
    ckB (ix k_19 needs_2.length) <|
    bnd (roles_Allowed (o_50, o_51, o_52, ()) (v_151.getD (Int.toNat v_153) Person.z).1 (acts_1.getD (Int.toNat k_19) ⟨#[]⟩) (needs_2.getD (Int.toNat k_19) ⟨#[]⟩) time_3 history_4) fun r9 =>
    bif (!decide (r9.2 = 0)) then
      rt false
    else
      bif r9.1 then
        ckB (inR .i64 (v_153 + 1)) <|
        nx ((v_153 + 1), (mput .str (v_151.getD (Int.toNat v_153) Person.z).1 true people_16))
      else
        ckB (inR .i64 (v_153 + 1)) <|
        nx ((v_153 + 1), people_16)
  else
    dn people_16
def law46_RolesEitherL1 (acts_1 : (List ByteArray)) (needs_2 : (List ByteArray)) (time_3 : Int) (history_4 : (List Task)) (set_13 : (List Int)) (skip_15 : Int) (n_17 : Int) (k_19 : Int) (v_117 : (List Int)) (v_118 : Int) (v_119 : Int) (v_151 : (List Person)) (v_152 : Int) (o_50 : (List Person)) (o_51 : (List Delegation)) (o_52 : (List Duty)) (s0 : (Int × (List (ByteArray × Bool)))) : Option ((List (ByteArray × Bool)) ⊕ Bool) :=
  loopM (fun a => law46_RolesEitherL1K acts_1 needs_2 time_3 history_4 set_13 skip_15 n_17 k_19 v_117 v_118 v_119 v_151 v_152 o_50 o_51 o_52 a.1 a.2 (fun a' => some (.next a')) (fun e => some (.done e)) (fun r => some (.ret r))) s0
def law46_RolesEitherL1I : Shp := ⟨[(1, .d true (.slice .str)), (2, .d true (.slice .str)), (3, .d true (.int .i64)), (4, .d true (.slice Task.ty)), (5, .ptr 0), (13, .nl false (.d true (.slice (.int .i64)))), (15, .d true (.int .i64)), (16, .mp 1), (17, .d true (.int .i64)), (19, .d true (.int .i64)), (117, .nl false (.d true (.slice (.int .i64)))), (118, .d true (.int .i64)), (119, .d true (.int .i64)), (151, .d true (.slice Person.ty)), (152, .d true (.int .i64)), (153, .d true (.int .i64))], [.cs 26 3 1 (.cons (.d true (.slice Person.ty)) (.cons (.d true (.slice Delegation.ty)) (.cons (.d true (.slice Duty.ty)) .nil))), .mp .str .bool]⟩
def law46_RolesEitherL1E : Shp := ⟨[(1, .d true (.slice .str)), (2, .d true (.slice .str)), (3, .d true (.int .i64)), (4, .d true (.slice Task.ty)), (5, .ptr 0), (13, .nl false (.d true (.slice (.int .i64)))), (15, .d true (.int .i64)), (16, .mp 1), (17, .d true (.int .i64)), (117, .nl false (.d true (.slice (.int .i64)))), (118, .d true (.int .i64)), (119, .d true (.int .i64))], [.cs 26 3 1 (.cons (.d true (.slice Person.ty)) (.cons (.d true (.slice Delegation.ty)) (.cons (.d true (.slice Duty.ty)) .nil))), .mp .str .bool]⟩
def law46_RolesEitherT2K {R : Type} (acts_1 : (List ByteArray)) (needs_2 : (List ByteArray)) (time_3 : Int) (history_4 : (List Task)) (set_13 : (List Int)) (skip_15 : Int) (n_17 : Int) (k_19 : Int) (v_117 : (List Int)) (v_118 : Int) (v_119 : Int) (o_50 : (List Person)) (o_51 : (List Delegation)) (o_52 : (List Duty)) (people_16 : (List (ByteArray × Bool))) (dn : (Int × (List (ByteArray × Bool))) → Option R) (rt : Bool → Option R) : Option R :=
  ckB (inR .i64 (n_17 + 1)) <|
  bnd (law46_RolesEitherL1 acts_1 needs_2 time_3 history_4 set_13 skip_15 (n_17 + 1) k_19 v_117 v_118 v_119 o_50 (o_50.length : Int) o_50 o_51 o_52 (0, people_16)) fun oe10 =>
  lk oe10 (fun e10 =>
    dn ((n_17 + 1), e10)) (fun r => rt r)
def law46_RolesEitherT2 (acts_1 : (List ByteArray)) (needs_2 : (List ByteArray)) (time_3 : Int) (history_4 : (List Task)) (set_13 : (List Int)) (skip_15 : Int) (n_17 : Int) (k_19 : Int) (v_117 : (List Int)) (v_118 : Int) (v_119 : Int) (o_50 : (List Person)) (o_51 : (List Delegation)) (o_52 : (List Duty)) (people_16 : (List (ByteArray × Bool))) : Option ((Int × (List (ByteArray × Bool))) ⊕ Bool) :=
  law46_RolesEitherT2K acts_1 needs_2 time_3 history_4 set_13 skip_15 n_17 k_19 v_117 v_118 v_119 o_50 o_51 o_52 people_16 (fun e => some (.inl e)) (fun r => some (.inr r))
def law46_RolesEitherT2I : Shp := ⟨[(1, .d true (.slice .str)), (2, .d true (.slice .str)), (3, .d true (.int .i64)), (4, .d true (.slice Task.ty)), (5, .ptr 0), (13, .nl false (.d true (.slice (.int .i64)))), (15, .d true (.int .i64)), (16, .mp 1), (17, .d true (.int .i64)), (19, .d true (.int .i64)), (117, .nl false (.d true (.slice (.int .i64)))), (118, .d true (.int .i64)), (119, .d true (.int .i64))], [.cs 26 3 1 (.cons (.d true (.slice Person.ty)) (.cons (.d true (.slice Delegation.ty)) (.cons (.d true (.slice Duty.ty)) .nil))), .mp .str .bool]⟩
def law46_RolesEitherT2E : Shp := ⟨[(1, .d true (.slice .str)), (2, .d true (.slice .str)), (3, .d true (.int .i64)), (4, .d true (.slice Task.ty)), (5, .ptr 0), (13, .nl false (.d true (.slice (.int .i64)))), (15, .d true (.int .i64)), (16, .mp 1), (17, .d true (.int .i64)), (117, .nl false (.d true (.slice (.int .i64)))), (118, .d true (.int .i64)), (119, .d true (.int .i64))], [.cs 26 3 1 (.cons (.d true (.slice Person.ty)) (.cons (.d true (.slice Delegation.ty)) (.cons (.d true (.slice Duty.ty)) .nil))), .mp .str .bool]⟩
def law46_RolesEitherL3K {R : Type} (acts_1 : (List ByteArray)) (needs_2 : (List ByteArray)) (time_3 : Int) (history_4 : (List Task)) (set_13 : (List Int)) (skip_15 : Int) (v_117 : (List Int)) (v_118 : Int) (o_50 : (List Person)) (o_51 : (List Delegation)) (o_52 : (List Duty)) (n_17 : Int) (v_119 : Int) (people_16 : (List (ByteArray × Bool))) (nx : (Int × Int × (List (ByteArray × Bool))) → Option R) (dn : (Int × (List (ByteArray × Bool))) → Option R) (rt : Bool → Option R) : Option R :=
  bif decide (v_119 < v_118) then
    ckB (ix v_119 v_117.length) <|
    ckB (ix v_119 v_117.length) <|
    bif decide ((v_117.getD (Int.toNat v_119) 0) < 0) then
      rt false
    else
      bif decide ((acts_1.length : Int) ≤ (v_117.getD (Int.toNat v_119) 0)) then
        rt false
      else
        bif decide ((0 : Int) < v_119) then
          ckB (inR .i64 (v_119 - 1)) <|
          ckB (ix (v_119 - 1) set_13.length) <|
          ckB (ix (v_119 - 1) set_13.length) <|
          bif decide ((v_117.getD (Int.toNat v_119) 0) ≤ (set_13.getD (Int.toNat (v_119 - 1)) 0)) then
            rt false
          else
            bif decide (v_119 = skip_15) then
              ckB (inR .i64 (v_119 + 1)) <|
              nx (n_17, (v_119 + 1), people_16)
            else
              bnd (law46_RolesEitherT2 acts_1 needs_2 time_3 history_4 set_13 skip_15 n_17 (v_117.getD (Int.toNat v_119) 0) v_117 v_118 v_119 o_50 o_51 o_52 people_16) fun oe11 =>
              lk oe11 (fun e11 =>
                ckB (inR .i64 (v_119 + 1)) <|
                nx (e11.1, (v_119 + 1), e11.2)) (fun r => rt r)
        else
          bif decide (v_119 = skip_15) then
            ckB (inR .i64 (v_119 + 1)) <|
            nx (n_17, (v_119 + 1), people_16)
          else
            bnd (law46_RolesEitherT2 acts_1 needs_2 time_3 history_4 set_13 skip_15 n_17 (v_117.getD (Int.toNat v_119) 0) v_117 v_118 v_119 o_50 o_51 o_52 people_16) fun oe12 =>
            lk oe12 (fun e12 =>
              ckB (inR .i64 (v_119 + 1)) <|
              nx (e12.1, (v_119 + 1), e12.2)) (fun r => rt r)
  else
    dn (n_17, people_16)
def law46_RolesEitherL3 (acts_1 : (List ByteArray)) (needs_2 : (List ByteArray)) (time_3 : Int) (history_4 : (List Task)) (set_13 : (List Int)) (skip_15 : Int) (v_117 : (List Int)) (v_118 : Int) (o_50 : (List Person)) (o_51 : (List Delegation)) (o_52 : (List Duty)) (s0 : (Int × Int × (List (ByteArray × Bool)))) : Option ((Int × (List (ByteArray × Bool))) ⊕ Bool) :=
  loopM (fun a => law46_RolesEitherL3K acts_1 needs_2 time_3 history_4 set_13 skip_15 v_117 v_118 o_50 o_51 o_52 a.1 a.2.1 a.2.2 (fun a' => some (.next a')) (fun e => some (.done e)) (fun r => some (.ret r))) s0
def law46_RolesEitherL3I : Shp := ⟨[(1, .d true (.slice .str)), (2, .d true (.slice .str)), (3, .d true (.int .i64)), (4, .d true (.slice Task.ty)), (5, .ptr 0), (13, .nl false (.d true (.slice (.int .i64)))), (15, .d true (.int .i64)), (16, .mp 1), (17, .d true (.int .i64)), (117, .nl false (.d true (.slice (.int .i64)))), (118, .d true (.int .i64)), (119, .d true (.int .i64))], [.cs 26 3 1 (.cons (.d true (.slice Person.ty)) (.cons (.d true (.slice Delegation.ty)) (.cons (.d true (.slice Duty.ty)) .nil))), .mp .str .bool]⟩
def law46_RolesEitherL3E : Shp := ⟨[(1, .d true (.slice .str)), (2, .d true (.slice .str)), (3, .d true (.int .i64)), (4, .d true (.slice Task.ty)), (5, .ptr 0), (13, .nl false (.d true (.slice (.int .i64)))), (15, .d true (.int .i64)), (16, .mp 1), (17, .d true (.int .i64))], [.cs 26 3 1 (.cons (.d true (.slice Person.ty)) (.cons (.d true (.slice Delegation.ty)) (.cons (.d true (.slice Duty.ty)) .nil))), .mp .str .bool]⟩
def law46_RolesEitherL4K {R : Type} (acts_1 : (List ByteArray)) (needs_2 : (List ByteArray)) (time_3 : Int) (history_4 : (List Task)) (set_13 : (List Int)) (o_50 : (List Person)) (o_51 : (List Delegation)) (o_52 : (List Duty)) (skip_15 : Int) (nx : Int → Option R) (dn : Unit → Option R) (rt : Bool → Option R) : Option R :=
  bif decide (skip_15 < (set_13.length : Int)) then
    bnd (law46_RolesEitherL3 acts_1 needs_2 time_3 history_4 set_13 skip_15 set_13 (set_13.length : Int) o_50 o_51 o_52 (0, 0, [])) fun oe13 =>
    lk oe13 (fun e13 =>
      bif (!(decide ((e13.2.length : Int) < e13.1) == decide (skip_15 < 0))) then
        rt false
      else
        ckB (inR .i64 (skip_15 + 1)) <|
        nx (skip_15 + 1)) (fun r => rt r)
  else
    dn ()
def law46_RolesEitherL4 (acts_1 : (List ByteArray)) (needs_2 : (List ByteArray)) (time_3 : Int) (history_4 : (List Task)) (set_13 : (List Int)) (o_50 : (List Person)) (o_51 : (List Delegation)) (o_52 : (List Duty)) (s0 : Int) : Option (Unit ⊕ Bool) :=
  loopM (fun a => law46_RolesEitherL4K acts_1 needs_2 time_3 history_4 set_13 o_50 o_51 o_52 a (fun a' => some (.next a')) (fun e => some (.done e)) (fun r => some (.ret r))) s0
def law46_RolesEitherL4I : Shp := ⟨[(1, .d true (.slice .str)), (2, .d true (.slice .str)), (3, .d true (.int .i64)), (4, .d true (.slice Task.ty)), (5, .ptr 0), (13, .nl false (.d true (.slice (.int .i64)))), (15, .d true (.int .i64))], [.cs 26 3 1 (.cons (.d true (.slice Person.ty)) (.cons (.d true (.slice Delegation.ty)) (.cons (.d true (.slice Duty.ty)) .nil)))]⟩
def law46_RolesEitherL4E : Shp := ⟨[], []⟩
def law46_RolesEitherT5K {R : Type} (acts_1 : (List ByteArray)) (needs_2 : (List ByteArray)) (time_3 : Int) (history_4 : (List Task)) (l_11 : (List ByteArray)) (e_12 : Int) (set_13 : (List Int)) (f_14 : Int) (o_50 : (List Person)) (o_51 : (List Delegation)) (o_52 : (List Duty)) (dn : Unit → Option R) (rt : Bool → Option R) : Option R :=
  bif decide (e_12 = 0) then
    bif decide (f_14 = 10) then
      bnd (roles_Check (o_50, o_51, o_52, ()) acts_1 needs_2 l_11 time_3 history_4) fun r8 =>
      rt r8
    else
      rt false
  else
    bif (!decide (f_14 = 0)) then
      rt false
    else
      bif decide ((set_13.length : Int) = 0) then
        rt false
      else
        bnd (law46_RolesEitherL4 acts_1 needs_2 time_3 history_4 set_13 o_50 o_51 o_52 (-1)) fun oe14 =>
        lk oe14 (fun e14 =>
          rt true) (fun r => rt r)
def law46_RolesEitherT5 (acts_1 : (List ByteArray)) (needs_2 : (List ByteArray)) (time_3 : Int) (history_4 : (List Task)) (l_11 : (List ByteArray)) (e_12 : Int) (set_13 : (List Int)) (f_14 : Int) (o_50 : (List Person)) (o_51 : (List Delegation)) (o_52 : (List Duty)) : Option (Unit ⊕ Bool) :=
  law46_RolesEitherT5K acts_1 needs_2 time_3 history_4 l_11 e_12 set_13 f_14 o_50 o_51 o_52 (fun e => some (.inl e)) (fun r => some (.inr r))
def law46_RolesEitherT5I : Shp := ⟨[(1, .d true (.slice .str)), (2, .d true (.slice .str)), (3, .d true (.int .i64)), (4, .d true (.slice Task.ty)), (5, .ptr 0), (11, .d true (.slice .str)), (12, .d true (.int .i64)), (13, .nl false (.d true (.slice (.int .i64)))), (14, .d true (.int .i64))], [.cs 26 3 1 (.cons (.d true (.slice Person.ty)) (.cons (.d true (.slice Delegation.ty)) (.cons (.d true (.slice Duty.ty)) .nil)))]⟩
def law46_RolesEitherT5E : Shp := ⟨[], []⟩
def law46_RolesEither (o_0 : Org) (acts_1 : (List ByteArray)) (needs_2 : (List ByteArray)) (time_3 : Int) (history_4 : (List Task)) : Option Bool :=
  bnd (law46_awake) fun r1 =>
  bif (!r1) then
    some false
  else
    bnd (law46_few o_0) fun r2 =>
    bif (!r2) then
      some true
    else
      bnd (law46_open acts_1 needs_2) fun r3 =>
      bif (!r3) then
        some true
      else
        bnd (law46_tasks history_4) fun r4 =>
        bif (!r4) then
          some true
        else
          bif decide ((6 : Int) < (acts_1.length : Int)) then
            some true
          else
            bnd (roles_Assign o_0 acts_1 needs_2 time_3 history_4) fun r5 =>
            bnd (roles_Blocking o_0 acts_1 needs_2 time_3 history_4) fun r6 =>
            bif (!decide (r5.1 = 0)) then
              bif (!decide (r5.1 = 10)) then
                bnd (law46_RolesEitherT0 acts_1 needs_2 time_3 history_4 r5.2 r5.1 r6.2 r6.1 true o_0.1 o_0.2.1 o_0.2.2.1) fun oe7 =>
                lk oe7 (fun e7 =>
                  bnd (law46_RolesEitherT5 acts_1 needs_2 time_3 history_4 r5.2 r5.1 r6.2 r6.1 o_0.1 o_0.2.1 o_0.2.2.1) fun oe15 =>
                  lk oe15 (fun e15 =>
                    none) (fun r => some r)) (fun r => some r)
              else
                bif (!decide (r6.1 = 0)) then
                  bnd (law46_RolesEitherT0 acts_1 needs_2 time_3 history_4 r5.2 r5.1 r6.2 r6.1 (!decide (r6.1 = 10)) o_0.1 o_0.2.1 o_0.2.2.1) fun oe16 =>
                  lk oe16 (fun e16 =>
                    bnd (law46_RolesEitherT5 acts_1 needs_2 time_3 history_4 r5.2 r5.1 r6.2 r6.1 o_0.1 o_0.2.1 o_0.2.2.1) fun oe17 =>
                    lk oe17 (fun e17 =>
                      none) (fun r => some r)) (fun r => some r)
                else
                  bnd (law46_RolesEitherT0 acts_1 needs_2 time_3 history_4 r5.2 r5.1 r6.2 r6.1 false o_0.1 o_0.2.1 o_0.2.2.1) fun oe18 =>
                  lk oe18 (fun e18 =>
                    bnd (law46_RolesEitherT5 acts_1 needs_2 time_3 history_4 r5.2 r5.1 r6.2 r6.1 o_0.1 o_0.2.1 o_0.2.2.1) fun oe19 =>
                    lk oe19 (fun e19 =>
                      none) (fun r => some r)) (fun r => some r)
            else
              bif (!decide (r6.1 = 0)) then
                bnd (law46_RolesEitherT0 acts_1 needs_2 time_3 history_4 r5.2 r5.1 r6.2 r6.1 (!decide (r6.1 = 10)) o_0.1 o_0.2.1 o_0.2.2.1) fun oe20 =>
                lk oe20 (fun e20 =>
                  bnd (law46_RolesEitherT5 acts_1 needs_2 time_3 history_4 r5.2 r5.1 r6.2 r6.1 o_0.1 o_0.2.1 o_0.2.2.1) fun oe21 =>
                  lk oe21 (fun e21 =>
                    none) (fun r => some r)) (fun r => some r)
              else
                bnd (law46_RolesEitherT0 acts_1 needs_2 time_3 history_4 r5.2 r5.1 r6.2 r6.1 false o_0.1 o_0.2.1 o_0.2.2.1) fun oe22 =>
                lk oe22 (fun e22 =>
                  bnd (law46_RolesEitherT5 acts_1 needs_2 time_3 history_4 r5.2 r5.1 r6.2 r6.1 o_0.1 o_0.2.1 o_0.2.2.1) fun oe23 =>
                  lk oe23 (fun e23 =>
                    none) (fun r => some r)) (fun r => some r)
end Go.Proofs.Ytmlfmeffjodhmaa
