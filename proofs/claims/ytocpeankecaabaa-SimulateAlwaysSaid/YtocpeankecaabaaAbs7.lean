/-
  Code over abstract states: what is to be shown ('opW', 'opsW', 'SW'), and that it is enough. No program is named.
-/
import Derived.Test.YtocpeankecaabaaAbs6
set_option linter.all false
namespace Go.Abs
open Go.RowKit

/-- A call, as the caller sees it. -/
def callW (P : Program) (H : List AObj) (fA : AV) (args : List AV) (post : List AObj → AV → Prop) : Prop :=
  match fA with
  | .fn f k caps => ∃ args', SubL H (args ++ (List.range k).map caps) args' ∧ Con P f args' post
  | _ => False

/-- The cell f of a value. -/
def AV.cell (A : AV) (f : Nat) : AV :=
  match A with
  | .agg _ cs => cs f
  | A => A

def cellsOk (sz : Nat) (A : AV) : Prop :=
  match A with
  | .agg k _ => k = sz
  | A => sz = 1 ∧ A.scalar = true

def storeV (ti : TI) (o : AObj) (i f : Nat) (A : AV) : AObj :=
  { o with cs := fun i' f' => if i' = i ∧ f ≤ f' ∧ f' < f + ti.sz then A.cell (f' - f) else o.cs i' f' }

/-- What append may append: how many elements, and their cells. -/
def srcV (H : List AObj) : AV → Option (Prop × Nat × Nat × (Nat → Nat → AV))
  | .ro _ sz m cs => some (0 < m, sz, m, cs)
  | .own t sz m =>
    match H[t]? with
    | some o => some (0 < m ∧ m ≤ o.n ∧ o.sz = sz, sz, m, o.cs)
    | none => none
  | _ => none

/-- An empty object for a slice that is nil. -/
def AS.pushNil (s : AS) (el : TypeId) (sz : Nat) : AS := s.push ⟨el, sz, 0, fun _ _ => .any⟩

/-- The operations that make or write owned objects, and calls. n0: so many tags are the caller's. -/
def effW (P : Program) (tt : TT) (n0 : Nat) (o : Oper) (s : AS) (K : AS → Prop) : Prop :=
  let e := evO s.slots
  match o.op with
  | .alloc t =>
    match tt t with
    | some x => x.zero.length = x.sz ∧ AV.zeroOk x.zero = true ∧ K ((s.push ⟨t, x.sz, 1, fun _ f => (x.zero.map ofC).getD f .any⟩).put o.dst (.ptr s.heap.length x.sz 0 0))
    | none => False
  | .box t x =>
    match tt t with
    | some ti => (e x).need ∧ cellsOk ti.sz (e x).get ∧ K ((s.push ⟨t, ti.sz, 1, fun _ f => (e x).get.cell f⟩).put o.dst (.ptr s.heap.length ti.sz 0 0))
    | none => False
  | .store t p x =>
    match tt t, (e p).get with
    | some ti, .ptr tg sz i f =>
      match s.heap[tg]? with
      | some ob => (e p).need ∧ (e x).need ∧ cellsOk ti.sz (e x).get ∧ ob.sz = sz ∧ i < ob.n ∧ f + ti.sz ≤ sz ∧ K ({ s with heap := s.heap.set tg (storeV ti ob i f (e x).get) }.put o.dst .any)
      | none => False
    | _, _ => False
  | .makeSlice t l c =>
    match tt t with
    | some ⟨.slice el, _, _, _⟩ =>
      match tt el, (e l).get, (e c).get with
      | some ei, .int _ lv, .int _ cv =>
        (e l).need ∧ (e c).need ∧ 0 ≤ lv ∧ lv ≤ cv ∧ (ei.bytes : Int) * cv ≤ 281474976710656 ∧ cv ≤ 9223372036854775807 ∧ ei.zero.length = ei.sz ∧ AV.zeroOk ei.zero = true ∧ 0 < ei.sz ∧
          K ((s.push ⟨el, ei.sz, lv.toNat, fun _ f => (ei.zero.map ofC).getD f .any⟩).put o.dst (.own s.heap.length ei.sz lv.toNat))
      | _, _, _ => False
    | _ => False
  | .buildSlice t len ps =>
    match tt t with
    | some ⟨.slice el, _, _, _⟩ =>
      match tt el with
      | some ei =>
        match fillL (fun i => some (i * ei.sz, ei.sz)) ((List.range (len * ei.sz)).map fun j => ofC (ei.zero.getD (j % ei.sz) undef)) (ps.toList.map fun p => (p.1, (e p.2).get)) with
        | some L => needs e ps.toList ∧ ei.zero.length = ei.sz ∧ AV.zeroOk ei.zero = true ∧ 0 < ei.sz ∧ len * ei.sz ≤ 16777216 ∧
            K ((s.push ⟨el, ei.sz, len, fun i f => L.getD (i * ei.sz + f) .any⟩).put o.dst (.own s.heap.length ei.sz len))
        | none => False
      | none => False
    | _ => False
  | .call ⟨.builtin .append, ⟨[d, x]⟩, ⟨[t, t']⟩⟩ =>
    match tt t with
    | some ⟨.slice el, _, _, _⟩ =>
      match tt el, srcV s.heap (e x).get with
      | some ei, some (C, sz, m, src) =>
        match (e d).get with
        | .own tg sz' n =>
          match s.heap[tg]? with
          | some ob => t = t' ∧ (e d).need ∧ (e x).need ∧ C ∧ ei.sz = ob.sz ∧ sz = ob.sz ∧ sz' = ob.sz ∧ n = ob.n ∧ 0 < ob.sz ∧ ob.ty = el ∧ ei.zero.length = ei.sz ∧ n0 ≤ tg ∧ n + m ≤ 9223372036854775807 ∧ (n + m) * ei.bytes ≤ 140737488355328 ∧
              K ((s.grown tg ob m src).put o.dst (.own tg sz (n + m)))
          | none => False
        | .val (.slice none 0 0) =>
          t = t' ∧ (e d).need ∧ (e x).need ∧ C ∧ ei.sz = sz ∧ 0 < sz ∧ ei.zero.length = ei.sz ∧ n0 ≤ s.heap.length ∧ m ≤ 9223372036854775807 ∧ m * ei.bytes ≤ 140737488355328 ∧
            K (((s.pushNil el sz).grown s.heap.length ⟨el, sz, 0, fun _ _ => .any⟩ m src).put o.dst (.own s.heap.length sz m))
        | _ => False
      | _, _ => False
    | _ => False
  | .call ⟨.value f, args, _⟩ =>
    (e f).need ∧ (∀ x ∈ args.toList, (e x).need) ∧ callW P s.heap (e f).get (args.toList.map fun x => (e x).get) (fun H' r => K ((s.pushes H').put o.dst (r.shift s.heap.length)))
  | _ => False

/-- One operation, not guarded. -/
def opW (P : Program) (tt : TT) (n0 : Nat) (o : Oper) (s : AS) (K : AS → Prop) : Prop :=
  match pvO tt s.heap (evO s.slots) o.op with
  | some (C, A) => C ∧ K (s.put o.dst A)
  | none => effW P tt n0 o s K

def AV.asGuard (want : Bool) : AV → Option Bool
  | .bool b => some (match want with | true => b | false => !b)
  | .cond c a => (a.asGuard want).map (c && ·)
  | _ => none

/-- A value that does not depend on what the call made. -/
def isV (r : AV) : List AObj → AV → Prop := fun H' r' => H' = [] ∧ r' = r

/-- One operation, carried out where c holds. -/
def grdW (P : Program) (tt : TT) (o : Oper) (c : Bool) (s : AS) (K : AS → Prop) : Prop :=
  match c with
  | true => opW P tt 0 o s K
  | false => K (s.put o.dst (.cond false (.bool false)))

def guardOf (ops : List Oper) (slots : List AV) (g : Nat × Bool) : Option Bool :=
  match (ops[g.1]?).bind (·.dst) with
  | some d => (slots.getD d .any).asGuard g.2
  | none => none

/-- The operations of a region, one after the other. -/
def opsW (P : Program) (tt : TT) (n0 : Nat) (ops : List Oper) : List Oper → AS → (AS → Prop) → Prop
  | [], s, K => K s
  | o :: rest, s, K =>
    match o.guard with
    | none => opW P tt n0 o s (fun s' => ∃ s2, SLe s' s2 ∧ opsW P tt n0 ops rest s2 K)
    | some g =>
      match guardOf ops s.slots g with
      | some c => grdW P tt o c s (fun s' => ∃ s2, SLe s' s2 ∧ opsW P tt n0 ops rest s2 K)
      | none => False

/-- Code c, begun in a state of which s tells, ends in one of which Q tells. -/
def SW (P : Program) (w0 : World) (σ0 : Tags) (c : Code) (Q : Exit → AS → Prop) (s : AS) : Prop :=
  ∀ a w σ, Rel w0 σ0 s a w σ → c.wp P (fun e a' w' => ∃ s' σ', Rel w0 σ0 s' a' w' σ' ∧ Q e s') a w

section
variable {P : Program} {tt : TT} {w0 : World} {σ0 : Tags}

theorem run_callFunc_enter {f : FuncId} (h : Callable P f) (args : Array Value) (w : World) : (callFunc f args).run P w = .ok (.enter f args) w := by
  obtain ⟨fn, h1, h2, h3⟩ := h
  simp only [callFunc, Sem.run_bind, run_program, Result.andThen_ok, h1, h2, h3, Bool.false_eq_true, if_false, Sem.run_pure]

/-- A call met by its contract. -/
theorem callW_sound {o : Oper} {s : AS} {a : Act} {w : World} {σ : Tags} (h : Rel w0 σ0 s a w σ) {f : Operand} {args : Array Operand} {ts : Array TypeId} (ho : o.op = .call ⟨.value f, args, ts⟩) (hσ : ∀ g, Owned σ g → w0.heap.size ≤ g)
    (hf : (evO s.slots f).need) (ha : ∀ x ∈ args.toList, (evO s.slots x).need) {post : List AObj → AV → Prop} (hc : callW P s.heap (evO s.slots f).get (args.toList.map fun x => (evO s.slots x).get) post)
    {Q : Exit → Act → World → Prop} {K : Act → World → Prop} (hK : ∀ v w' σ' H' A, Heaps w' w.heap.size σ' H' → (∀ o ∈ H', FreshO o) → V w' w.heap.size σ' A σ' v → AllFresh A → Since w [] w' σ' → post H' A → K (a.put o.dst v) w') :
    o.wp P a w K Q := by
  have hfv := (h.ev f).get hf
  unfold callW at hc
  split at hc
  · rename_i fid k caps hget
    rw [hget] at hfv
    obtain ⟨l, hl, hk, hcaps⟩ := hfv
    obtain ⟨args', hsub, hspec⟩ := hc
    have hrun : (execOp a.eval o).run P w = .ok (.enter fid (args.map a.eval ++ l)) w := by
      unfold execOp
      simp only [ho, resolve, Sem.run_bind, hl, Deferred.ofValue, Sem.run_pure, Result.andThen_ok, invoke]
      rw [run_callFunc_enter hspec.1]
      simp
    unfold Oper.wp
    rw [hrun]
    simp only [Oper.upon]
    have hvs : (args.map a.eval ++ l) = ((args.toList.map a.eval) ++ l.toList).toArray := by
      apply Array.ext'
      simp
    rw [hvs]
    refine (hspec.2 w ((args.toList.map a.eval) ++ l.toList) ?_ ?_).mono ?_
    · rw [← hsub.length]; simp [hk]
    · intro j A' v hA' hv
      obtain ⟨A, hA, hs⟩ := hsub.at_ j A' hA'
      have hVA : V w w0.heap.size σ A σ v := by
        rcases Nat.lt_or_ge j args.toList.length with hlt | hge
        · rw [List.getElem?_append_left (by simpa using hlt), List.getElem?_map, List.getElem?_eq_getElem hlt] at hA
          rw [List.getElem?_append_left (by simpa using hlt), List.getElem?_map, List.getElem?_eq_getElem hlt] at hv
          simp only [Option.map_some, Option.some.injEq] at hA hv
          subst hA
          subst hv
          exact (h.ev _).get (ha _ (List.getElem_mem hlt))
        · rw [List.getElem?_append_right (by simpa using hge), List.length_map, List.getElem?_map] at hA
          rw [List.getElem?_append_right (by simpa using hge), List.length_map] at hv
          have hjk : j - args.toList.length < k := by
            rcases Nat.lt_or_ge (j - args.toList.length) k with h' | h'
            · exact h'
            · rw [List.getElem?_eq_none (by simpa using h')] at hA; cases hA
          rw [List.getElem?_range hjk] at hA
          simp only [Option.map_some, Option.some.injEq] at hA
          subst hA
          obtain ⟨u, hu, hV⟩ := hcaps _ hjk
          rw [Array.getElem?_toList] at hv
          rw [hu] at hv
          injection hv with hv
          subst hv
          exact hV
      have h0 := hs w w0.heap.size σ v h.heaps hσ hVA
      exact VX.handed_zero A' [] v h0
    · rintro e w' ⟨v, σ', H', A, rfl, hH, hfo, hV, hfr, hsn, hpo⟩
      exact hK v w' σ' H' A hH hfo hV hfr hsn hpo
  · exact hc.elim

end
end Go.Abs
