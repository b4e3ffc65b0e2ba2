/-
  How code is walked: what is left of it as a list ('Goes'), one rule a form; regions run at one stroke ('runL'). No program is named.
-/
import Derived.Test.YtocpeankecaabaaAbs12
set_option linter.all false
namespace Go.Abs
open Go.RowKit

/-- The operations that make or write owned objects, run: what is to be shown, and the state behind. -/
def effR (tt : TT) (o : Oper) (s : AS) : Option (Prop × AS) :=
  let e := evO s.slots
  match o.op with
  | .alloc t =>
    match tt t with
    | some x => some (x.zero.length = x.sz ∧ AV.zeroOk x.zero = true, (s.push ⟨t, x.sz, 1, fun _ f => (x.zero.map ofC).getD f .any⟩).put o.dst (.ptr s.heap.length x.sz 0 0))
    | none => none
  | .box t x =>
    match tt t with
    | some ti => some ((e x).need ∧ cellsOk ti.sz (e x).get, (s.push ⟨t, ti.sz, 1, fun _ f => (e x).get.cell f⟩).put o.dst (.ptr s.heap.length ti.sz 0 0))
    | none => none
  | .store t p x =>
    match tt t, (e p).get with
    | some ti, .ptr tg sz i f =>
      match s.heap[tg]? with
      | some ob => some ((e p).need ∧ (e x).need ∧ cellsOk ti.sz (e x).get ∧ ob.sz = sz ∧ i < ob.n ∧ f + ti.sz ≤ sz, { s with heap := s.heap.set tg (storeV ti ob i f (e x).get) }.put o.dst .any)
      | none => none
    | _, _ => none
  | .makeSlice t l c =>
    match tt t with
    | some ⟨.slice el, _, _, _⟩ =>
      match tt el, (e l).get, (e c).get with
      | some ei, .int _ lv, .int _ cv =>
        some ((e l).need ∧ (e c).need ∧ 0 ≤ lv ∧ lv ≤ cv ∧ (ei.bytes : Int) * cv ≤ 281474976710656 ∧ cv ≤ 9223372036854775807 ∧ ei.zero.length = ei.sz ∧ AV.zeroOk ei.zero = true ∧ 0 < ei.sz,
          (s.push ⟨el, ei.sz, lv.toNat, fun _ f => (ei.zero.map ofC).getD f .any⟩).put o.dst (.own s.heap.length ei.sz lv.toNat))
      | _, _, _ => none
    | _ => none
  | .buildSlice t len ps =>
    match tt t with
    | some ⟨.slice el, _, _, _⟩ =>
      match tt el with
      | some ei =>
        match fillL (fun i => some (i * ei.sz, ei.sz)) ((List.range (len * ei.sz)).map fun j => ofC (ei.zero.getD (j % ei.sz) undef)) (ps.toList.map fun p => (p.1, (e p.2).get)) with
        | some L => some (needs e ps.toList ∧ ei.zero.length = ei.sz ∧ AV.zeroOk ei.zero = true ∧ 0 < ei.sz ∧ len * ei.sz ≤ 16777216,
            (s.push ⟨el, ei.sz, len, fun i f => L.getD (i * ei.sz + f) .any⟩).put o.dst (.own s.heap.length ei.sz len))
        | none => none
      | none => none
    | _ => none
  | .call ⟨.builtin .append, ⟨[d, x]⟩, ⟨[t, t']⟩⟩ =>
    match tt t with
    | some ⟨.slice el, _, _, _⟩ =>
      match tt el, srcV s.heap (e x).get with
      | some ei, some (C, sz, m, src) =>
        match (e d).get with
        | .own tg sz' n =>
          match s.heap[tg]? with
          | some ob => some (t = t' ∧ (e d).need ∧ (e x).need ∧ C ∧ ei.sz = ob.sz ∧ sz = ob.sz ∧ sz' = ob.sz ∧ n = ob.n ∧ 0 < ob.sz ∧ ob.ty = el ∧ ei.zero.length = ei.sz ∧ n + m ≤ 9223372036854775807 ∧ (n + m) * ei.bytes ≤ 140737488355328,
              (s.grown tg ob m src).put o.dst (.own tg sz (n + m)))
          | none => none
        | .val (.slice none 0 0) =>
          some (t = t' ∧ (e d).need ∧ (e x).need ∧ C ∧ ei.sz = sz ∧ 0 < sz ∧ ei.zero.length = ei.sz ∧ m ≤ 9223372036854775807 ∧ m * ei.bytes ≤ 140737488355328,
            ((s.pushNil el sz).grown s.heap.length ⟨el, sz, 0, fun _ _ => .any⟩ m src).put o.dst (.own s.heap.length sz m))
        | _ => none
      | _, _ => none
    | _ => none
  | _ => none

theorem effR_sound {P : Program} {tt : TT} {o : Oper} {s s' : AS} {C : Prop} {K : AS → Prop} (h : effR tt o s = some (C, s')) (hC : C) (hK : K s') : effW P tt 0 o s K := by
  unfold effR at h
  unfold effW
  simp only [] at h ⊢
  split at h
  · rename_i t ho
    simp only [ho]
    split at h
    · rename_i x ht
      simp only [Option.some.injEq, Prod.mk.injEq] at h
      obtain ⟨rfl, rfl⟩ := h
      simp only [ht]
      exact ⟨hC.1, hC.2, hK⟩
    · cases h
  · rename_i t x ho
    simp only [ho]
    split at h
    · rename_i x ht
      simp only [Option.some.injEq, Prod.mk.injEq] at h
      obtain ⟨rfl, rfl⟩ := h
      simp only [ht]
      exact ⟨hC.1, hC.2, hK⟩
    · cases h
  · rename_i t p x ho
    simp only [ho]
    split at h
    · rename_i ti tg sz i f ht hp
      simp only [ht, hp]
      split at h
      · rename_i ob hob
        simp only [Option.some.injEq, Prod.mk.injEq] at h
        obtain ⟨rfl, rfl⟩ := h
        simp only [hob]
        obtain ⟨a1, a2, a3, a4, a5, a6⟩ := hC
        exact ⟨a1, a2, a3, a4, a5, a6, hK⟩
      · cases h
    · cases h
  · rename_i t l c ho
    simp only [ho]
    split at h
    · rename_i el b1 b2 z1 ht
      simp only [ht]
      split at h
      · rename_i ei k1 lv k2 cv hel hl hc
        simp only [Option.some.injEq, Prod.mk.injEq] at h
        obtain ⟨rfl, rfl⟩ := h
        simp only [hel, hl, hc]
        obtain ⟨a1, a2, a3, a4, a5, a6, a7, a8, a9⟩ := hC
        exact ⟨a1, a2, a3, a4, a5, a6, a7, a8, a9, hK⟩
      · cases h
    · cases h
  · rename_i t len ps ho
    simp only [ho]
    split at h
    · rename_i el b1 b2 z1 ht
      simp only [ht]
      split at h
      · rename_i ei hel
        simp only [hel]
        split at h
        · rename_i L hL
          simp only [Option.some.injEq, Prod.mk.injEq] at h
          obtain ⟨rfl, rfl⟩ := h
          simp only [hL]
          obtain ⟨a1, a2, a3, a4, a5⟩ := hC
          exact ⟨a1, a2, a3, a4, a5, hK⟩
        · cases h
      · cases h
    · cases h
  · rename_i d x t t' ho
    simp only [ho]
    split at h
    · rename_i el b1 b2 z1 ht
      simp only [ht]
      split at h
      · rename_i ei C' sz m src hel hsrc
        simp only [hel, hsrc]
        split at h
        · rename_i tg sz' n hd
          simp only [hd]
          split at h
          · rename_i ob hob
            simp only [Option.some.injEq, Prod.mk.injEq] at h
            obtain ⟨rfl, rfl⟩ := h
            simp only [hob]
            obtain ⟨a1, a2, a3, a4, a5, a6, a7, a8, a9, a10, a11, a12, a13⟩ := hC
            exact ⟨a1, a2, a3, a4, a5, a6, a7, a8, a9, a10, a11, Nat.zero_le _, a12, a13, hK⟩
          · cases h
        · rename_i hd
          simp only [Option.some.injEq, Prod.mk.injEq] at h
          obtain ⟨rfl, rfl⟩ := h
          simp only [hd]
          obtain ⟨a1, a2, a3, a4, a5, a6, a7, a8, a9⟩ := hC
          exact ⟨a1, a2, a3, a4, a5, a6, a7, Nat.zero_le _, a8, a9, hK⟩
        · cases h
      · cases h
    · cases h
  · cases h

def andP (C : Prop) : Option (Prop × AS) → Option (Prop × AS)
  | some (D, s) => some (C ∧ D, s)
  | none => none

/-- One operation without a call, run. -/
def runO (tt : TT) (ops : List Oper) (o : Oper) (s : AS) : Option (Prop × AS) :=
  match o.guard with
  | none =>
    match pvO tt s.heap (evO s.slots) o.op with
    | some (C, A) => some (C, s.put o.dst A)
    | none => effR tt o s
  | some g =>
    match guardOf ops s.slots g with
    | some c =>
      match pvO tt s.heap (evO s.slots) o.op with
      | some (C, A) => some ((c = true → C), s.put o.dst (.cond c A))
      | none => none
    | none => none

theorem kill_ite (t : Nat) (c : Prop) [Decidable c] (A B : AV) : kill t (if c then A else B) = if c then kill t A else kill t B := by split <;> rfl

theorem SubL.app {H : List AObj} : ∀ {l l' m m' : List AV}, SubL H l l' → SubL H m m' → SubL H (l ++ m) (l' ++ m')
  | [], [], _, _, _, h => h
  | _ :: _, _ :: _, _, _, h, k => ⟨h.1, SubL.app h.2 k⟩
  | [], _ :: _, _, _, h, _ => h.elim
  | _ :: _, [], _, _, h, _ => h.elim
theorem SubL.refl_of {H : List AObj} : ∀ {l : List AV}, (∀ A ∈ l, Sub H A A) → SubL H l l
  | [], _ => trivial
  | A :: l, h => ⟨h A (List.mem_cons_self ..), SubL.refl_of fun B hB => h B (List.mem_cons_of_mem _ hB)⟩

/-- The first n operations of a list, run: what is to be shown (behind 'acc'), the state behind, the others. -/
def runA (tt : TT) (ops : List Oper) : Nat → List Oper → Prop → AS → Option (Prop × AS × List Oper)
  | 0, l, acc, s => some (acc, s, l)
  | _ + 1, [], acc, s => some (acc, s, [])
  | n + 1, o :: l, acc, s =>
    match runO tt ops o s with
    | some (C, s') => runA tt ops n l (acc ∧ C) s'
    | none => none

section
variable {P : Program} {tt : TT} {w0 : World}

theorem runA_acc {ops : List Oper} : ∀ (n : Nat) (l : List Oper) (acc : Prop) (s s' : AS) (C : Prop) (l' : List Oper), runA tt ops n l acc s = some (C, s', l') → C → acc := by
  intro n
  induction n with
  | zero => intro l acc s s' C l' h hC; simp only [runA, Option.some.injEq, Prod.mk.injEq] at h; rw [h.1]; exact hC
  | succ n ih =>
    intro l acc s s' C l' h hC
    cases l with
    | nil => simp only [runA, Option.some.injEq, Prod.mk.injEq] at h; rw [h.1]; exact hC
    | cons o l =>
      simp only [runA] at h
      split at h
      · exact (ih l _ _ _ _ _ h hC).1
      · cases h

theorem runA_sound {ops : List Oper} {K : AS → Prop} : ∀ (n : Nat) (l : List Oper) (acc : Prop) (s s' : AS) (C : Prop) (l' : List Oper), runA tt ops n l acc s = some (C, s', l') → C → opsW P tt 0 ops l' s' K → opsW P tt 0 ops l s K := by
  intro n
  induction n with
  | zero =>
    intro l acc s s' C l' h _ hK
    simp only [runA, Option.some.injEq, Prod.mk.injEq] at h
    obtain ⟨_, rfl, rfl⟩ := h
    exact hK
  | succ n ih =>
    intro l acc s s' C l' h hC hK
    cases l with
    | nil =>
      simp only [runA, Option.some.injEq, Prod.mk.injEq] at h
      obtain ⟨_, rfl, rfl⟩ := h
      exact hK
    | cons o l =>
      simp only [runA] at h
      split at h
      · rename_i C1 s1 h1
        have hC1 : C1 := (runA_acc n l _ s1 s' C l' h hC).2
        have hrest := ih l _ s1 s' C l' h hC hK
        unfold opsW
        unfold runO at h1
        split at h1
        · rename_i hg
          simp only [hg]
          unfold opW
          split at h1
          · rename_i C2 A hp
            simp only [Option.some.injEq, Prod.mk.injEq] at h1
            obtain ⟨rfl, rfl⟩ := h1
            try simp only [hp]
            exact ⟨hC1, hrest⟩
          · rename_i hp
            simp only [hp]
            exact effR_sound h1 hC1 hrest
        · rename_i g hg
          simp only [hg]
          split at h1
          · rename_i c hc
            try simp only [hc]
            unfold grdW
            split at h1
            · rename_i C2 A hp
              simp only [Option.some.injEq, Prod.mk.injEq] at h1
              obtain ⟨rfl, rfl⟩ := h1
              try simp only [hp]
              exact ⟨hC1, hrest⟩
            · cases h1
          · cases h1
      · cases h

/-- The slots that are kept; g: so many are passed over before the next one that is kept. -/
def keepG : List Nat → List AV → List AV
  | _, [] => []
  | [], _ :: l => .any :: keepG [] l
  | 0 :: gs, A :: l => A :: keepG gs l
  | (g + 1) :: gs, _ :: l => .any :: keepG (g :: gs) l

theorem keepG_le : ∀ (l : List AV) (gs : List Nat), (keepG gs l).length = l.length ∧ ∀ (t : Nat) A', (keepG gs l)[t]? = some A' → ∃ A, l[t]? = some A ∧ (A' = .any ∨ A = A') := by
  intro l
  induction l with
  | nil => intro gs; cases gs <;> exact ⟨rfl, fun t A' h => by simp [keepG] at h⟩
  | cons A l ih =>
    intro gs
    have step : ∀ (B : AV) (gs' : List Nat), (B = .any ∨ A = B) → (B :: keepG gs' l).length = (A :: l).length ∧ ∀ (t : Nat) A', (B :: keepG gs' l)[t]? = some A' → ∃ A1, (A :: l)[t]? = some A1 ∧ (A' = .any ∨ A1 = A') := by
      intro B gs' hB
      obtain ⟨h1, h2⟩ := ih gs'
      refine ⟨by simp [h1], fun t A' h => ?_⟩
      cases t with
      | zero => simp only [List.getElem?_cons_zero, Option.some.injEq] at h; subst h; exact ⟨A, rfl, hB⟩
      | succ t => obtain ⟨A1, h3, h4⟩ := h2 t A' (by simpa using h); exact ⟨A1, by simpa using h3, h4⟩
    cases gs with
    | nil => exact step .any [] (.inl rfl)
    | cons g gs =>
      cases g with
      | zero => exact step A gs (.inr rfl)
      | succ g => exact step .any (g :: gs) (.inl rfl)

theorem SLe.keep (gs : List Nat) (s : AS) : SLe s ⟨keepG gs s.slots, s.heap⟩ := by
  intro w0 a w σ hr
  obtain ⟨h1, h2⟩ := keepG_le s.slots gs
  refine ⟨σ, hr.defers, by rw [hr.len]; exact h1.symm, fun t A' hA' => ?_, hr.heaps, hr.since⟩
  obtain ⟨A, hA, hor⟩ := h2 t A' hA'
  obtain ⟨v, hv, hV⟩ := hr.slot t A hA
  rcases hor with rfl | rfl
  · exact ⟨v, hv, trivial⟩
  · exact ⟨v, hv, hV⟩

/-- What is left of the code. -/
inductive CItem where
  | code (c : Code)
  | endBlock (id : Nat)
  | endLoop (p : AS → Prop)

/-- The code that is left, begun in a state of which s tells, ends as Q says. -/
def Goes (P : Program) (w0 : World) (Q : Exit → AS → Prop) : List CItem → AS → Prop
  | [], s => Q .normal s
  | .code c :: k, s => SW P w0 [] c (fun e s' => match e with | .normal => Goes P w0 Q k s' | .exit id => exitK id k s' | e => Q e s') s
  | .endBlock _ :: k, s => Goes P w0 Q k s
  | .endLoop p :: _, s => p s
where
  exitK (id : Nat) : List CItem → AS → Prop
    | [], s => Q (.exit id) s
    | .endBlock id' :: k, s => if id' = id then Goes P w0 Q k s else exitK id k s
    | _ :: k, s => exitK id k s

variable {Q : Exit → AS → Prop} {k : List CItem} {s : AS}

theorem G.start {c : Code} (h : Goes P w0 Q [.code c] s) : SW P w0 [] c Q s := by
  unfold Goes at h
  refine SW.mono ?_ h
  intro e s' hq
  cases e with
  | normal => simpa [Goes] using hq
  | exit id => simpa [Goes.exitK] using hq
  | _ => exact hq

theorem G.seq {x y : Code} (h : Goes P w0 Q (.code x :: .code y :: k) s) : Goes P w0 Q (.code (.seq x y) :: k) s := by
  unfold Goes at h ⊢
  refine SW.seq (SW.mono ?_ h)
  intro e s' hq
  cases e with
  | normal =>
    simp only [Then]
    simp only [] at hq
    unfold Goes at hq
    exact hq
  | exit id => simpa [Then, Goes.exitK] using hq
  | _ => simpa [Then] using hq

theorem G.block {id : Nat} {x : Code} (h : Goes P w0 Q (.code x :: .endBlock id :: k) s) : Goes P w0 Q (.code (.block id x) :: k) s := by
  unfold Goes at h ⊢
  refine SW.block (SW.mono ?_ h)
  intro e s' hq
  cases e with
  | normal =>
    simp only [InBlock]
    simp only [] at hq
    unfold Goes at hq
    exact hq
  | exit id' =>
    simp only [Goes.exitK] at hq
    simp only [InBlock]
    by_cases he : id' = id
    · rw [if_pos he]; rw [if_pos he.symm] at hq; exact hq
    · rw [if_neg he]; rw [if_neg (Ne.symm he)] at hq; exact hq
  | _ => simpa [InBlock] using hq

theorem G.endBlock {id : Nat} (h : Goes P w0 Q k s) : Goes P w0 Q (.endBlock id :: k) s := by unfold Goes; exact h
theorem G.skip (h : Goes P w0 Q k s) : Goes P w0 Q (.code .skip :: k) s := by unfold Goes; exact SW.skip h
theorem G.ret (h : Q .ret s) : Goes P w0 Q (.code .ret :: k) s := by unfold Goes; exact SW.ret h
theorem G.nil (h : Q .normal s) : Goes P w0 Q [] s := by unfold Goes; exact h
theorem G.endLoop {p : AS → Prop} (h : p s) : Goes P w0 Q (.endLoop p :: k) s := by unfold Goes; exact h
/-- The code behind a block that is left. -/
def exitTo' (id : Nat) : List CItem → Option (List CItem)
  | [] => none
  | .endBlock id' :: k => if id' = id then some k else exitTo' id k
  | _ :: k => exitTo' id k
theorem exitK_of {id : Nat} : ∀ (k k' : List CItem), exitTo' id k = some k' → Goes P w0 Q k' s → Goes.exitK P w0 Q id k s := by
  intro k
  induction k with
  | nil => intro k' h; simp [exitTo'] at h
  | cons x k ih =>
    intro k' h hg
    cases x with
    | code c => simp only [exitTo'] at h; unfold Goes.exitK; exact ih k' h hg
    | endLoop p => simp only [exitTo'] at h; unfold Goes.exitK; exact ih k' h hg
    | endBlock id' =>
      simp only [exitTo'] at h
      unfold Goes.exitK
      split at h
      · rename_i he; rw [if_pos he]; injection h with h; subst h; exact hg
      · rename_i he; rw [if_neg he]; exact ih k' h hg
theorem G.exit {id : Nat} {k' : List CItem} (hk : exitTo' id k = some k') (h : Goes P w0 Q k' s) : Goes P w0 Q (.code (.exit id) :: k) s := by
  unfold Goes
  exact SW.exit (exitK_of k k' hk h)
theorem G.cond {c : Operand} {x y : Code} {b : Bool} (hb : evO s.slots c = .bool b) (ht : b = true → Goes P w0 Q (.code x :: k) s) (hf : b = false → Goes P w0 Q (.code y :: k) s) : Goes P w0 Q (.code (.cond c x y) :: k) s := by
  unfold Goes at *
  exact SW.cond hb ht hf
theorem G.weaken {s' : AS} (hs : SLe s s') (h : ∀ c k', k = .code c :: k' → Goes P w0 Q k s') (hk : ∃ c k', k = .code c :: k') : Goes P w0 Q k s := by
  obtain ⟨c, k', rfl⟩ := hk
  have := h c k' rfl
  unfold Goes at *
  exact SW.weaken hs this
/-- At a statement's head less may be known. -/
theorem G.le {c : Code} {s' : AS} (hs : SLe s s') (h : Goes P w0 Q (.code c :: k) s') : Goes P w0 Q (.code c :: k) s := by
  unfold Goes at *
  exact SW.weaken hs h
/-- Only these slots are kept. -/
theorem G.keep {c : Code} (gs : List Nat) {S : List AV} (hS : keepG gs s.slots = S) (h : Goes P w0 Q (.code c :: k) ⟨S, s.heap⟩) : Goes P w0 Q (.code c :: k) s :=
  G.le (SLe.keep gs s) (by rw [hS]; exact h)

/-- A region without calls that does not draw. -/
theorem G.run (hF : Fits P tt) {id : Nat} {l : List Oper} {C : Prop} {s' : AS} (hr : runA tt l l.length l True s = some (C, s', [])) (hC : C) (h : Goes P w0 Q k s') : Goes P w0 Q (.code (.region id l.toArray false) :: k) s := by
  unfold Goes
  exact SW.region hF (runA_sound l.length l True s s' C [] hr hC (by simpa [opsW] using h))

/-- A region that does not draw: its operations. -/
theorem G.ops (hF : Fits P tt) {id : Nat} {l : List Oper} (h : opsW P tt 0 l l s (Goes P w0 Q k)) : Goes P w0 Q (.code (.region id l.toArray false) :: k) s := by
  unfold Goes
  exact SW.region hF h

/-- The first n operations are run. -/
theorem O.run {ops l : List Oper} {K : AS → Prop} (n : Nat) {C : Prop} {s' : AS} {l' : List Oper} (hr : runA tt ops n l True s = some (C, s', l')) (hC : C) (h : opsW P tt 0 ops l' s' K) : opsW P tt 0 ops l s K :=
  runA_sound n l True s s' C l' hr hC h
theorem O.nil {ops : List Oper} {K : AS → Prop} (h : K s) : opsW P tt 0 ops [] s K := h

/-- A call whose value is known. -/
theorem O.call {ops rest : List Oper} {K : AS → Prop} {dst : Option Tmp} {f : Operand} {args : List Operand} {ts : Array TypeId} {ty : TypeId} {pos : String} {after : Array Edge} {fid : FuncId} {kc : Nat} {caps : Nat → AV} {args' : List AV} {r : AV}
    (hf : evO s.slots f = .fn fid kc caps) (hc : Con P fid args' (isV r)) (hn : ∀ x ∈ args, (evO s.slots x).need) (hsub : SubL s.heap (args.map (fun x => (evO s.slots x).get) ++ (List.range kc).map caps) args')
    (h : opsW P tt 0 ops rest (s.put dst (r.shift s.heap.length)) K) : opsW P tt 0 ops (⟨dst, .call ⟨.value f, args.toArray, ts⟩, ty, pos, after, none⟩ :: rest) s K := by
  unfold opsW
  simp only []
  unfold opW
  simp only [pvO]
  unfold effW
  simp only [hf]
  refine ⟨trivial, by simpa using hn, args', by simpa using hsub, hc.mono ?_⟩
  rintro H' A ⟨rfl, rfl⟩
  simpa [AS.pushes] using h

/-- A call of which its contract tells. -/
theorem O.callP {ops rest : List Oper} {K : AS → Prop} {dst : Option Tmp} {f : Operand} {args : List Operand} {ts : Array TypeId} {ty : TypeId} {pos : String} {after : Array Edge} {fid : FuncId} {kc : Nat} {caps : Nat → AV} {args' : List AV} {post : List AObj → AV → Prop}
    (hf : evO s.slots f = .fn fid kc caps) (hc : Con P fid args' post) (hn : ∀ x ∈ args, (evO s.slots x).need) (hsub : SubL s.heap (args.map (fun x => (evO s.slots x).get) ++ (List.range kc).map caps) args')
    (h : ∀ H' r, post H' r → opsW P tt 0 ops rest ((s.pushes H').put dst (r.shift s.heap.length)) K) : opsW P tt 0 ops (⟨dst, .call ⟨.value f, args.toArray, ts⟩, ty, pos, after, none⟩ :: rest) s K := by
  unfold opsW
  simp only []
  unfold opW
  simp only [pvO]
  unfold effW
  simp only [hf]
  exact ⟨trivial, by simpa using hn, args', by simpa using hsub, hc.mono h⟩

/-- A guarded call. -/
theorem O.callG {ops rest : List Oper} {K : AS → Prop} {dst : Option Tmp} {f : Operand} {args : List Operand} {ts : Array TypeId} {ty : TypeId} {pos : String} {after : Array Edge} {g : Nat × Bool} {fid : FuncId} {kc : Nat} {caps : Nat → AV} {args' : List AV} {r : AV} {c : Bool}
    (hg : guardOf ops s.slots g = some c) (hf : evO s.slots f = .fn fid kc caps) (hc : c = true → Con P fid args' (isV r)) (hn : c = true → ∀ x ∈ args, (evO s.slots x).need) (hsub : c = true → SubL s.heap (args.map (fun x => (evO s.slots x).get) ++ (List.range kc).map caps) args')
    (h : opsW P tt 0 ops rest (s.put dst (.cond c r)) K) : opsW P tt 0 ops (⟨dst, .call ⟨.value f, args.toArray, ts⟩, ty, pos, after, some g⟩ :: rest) s K := by
  unfold opsW
  simp only [hg]
  unfold grdW
  simp only [pvO]
  refine ⟨r, fun hct => ?_, h⟩
  simp only [hf]
  exact ⟨trivial, by simpa using hn hct, args', by simpa using hsub hct, hc hct⟩

/-- One operation of a region that draws, without a call: what is to be shown, its value. -/
def runDO (tt : TT) (ops : List Oper) (H : List AObj) (o : Oper) (S : List AV) : Option (Prop × AV) :=
  match o.guard with
  | none =>
    match pvO tt H (evO S) o.op with
    | some (C, A) => some (C, A)
    | none =>
      match o.op with
      | .buildSlice t len ps =>
        match tt t with
        | some ⟨.slice el, _, _, _⟩ =>
          match tt el with
          | some ei =>
            match fillL (fun i => some (i * ei.sz, ei.sz)) ((List.range (len * ei.sz)).map fun j => ofC (ei.zero.getD (j % ei.sz) undef)) (ps.toList.map fun p => (p.1, (evO S p.2).get)) with
            | some L => some ((needs (evO S) ps.toList ∧ ei.zero.length = ei.sz ∧ AV.zeroOk ei.zero = true ∧ 0 < ei.sz ∧ len * ei.sz ≤ 16777216 ∧ L.all AV.closedB = true), .ro true ei.sz len (fun i f => L.getD (i * ei.sz + f) .any))
            | none => none
          | none => none
        | _ => none
      | _ => none
  | some g =>
    match guardOf ops S g with
    | some c =>
      match pvO tt H (evO S) o.op with
      | some (C, A) => some ((c = true → C), .cond c A)
      | none => none
    | none => none

/-- The operations of a region that draws, without calls, run. -/
def runD (tt : TT) (ops : List Oper) (H : List AObj) : Nat → List Oper → Prop → List AV → Option (Prop × List AV × List Oper)
  | 0, l, acc, S => some (acc, S, l)
  | _ + 1, [], acc, S => some (acc, S, [])
  | n + 1, o :: l, acc, S =>
    match runDO tt ops H o S with
    | some (C, A) => runD tt ops H n l (acc ∧ C) (putS S o.dst A)
    | none => none

theorem runDO_sound {ops : List Oper} {H : List AObj} {o : Oper} {S : List AV} {C : Prop} {A : AV} {K : AV → Prop} (h : runDO tt ops H o S = some (C, A)) (hC : C) (hK : K A) : dopW P tt ops o H S K := by
  unfold dopW
  unfold runDO at h
  split at h
  · rename_i hg
    simp only [hg]
    split at h
    · rename_i C1 A1 hp
      simp only [Option.some.injEq, Prod.mk.injEq] at h
      obtain ⟨rfl, rfl⟩ := h
      try simp only [hp]
      exact ⟨hC, hK⟩
    · rename_i hp
      simp only [hp]
      split at h
      · rename_i t len ps ho
        simp only [ho]
        split at h
        · rename_i ht
          try simp only [ht]
          split at h
          · rename_i ei hel
            try simp only [hel]
            split at h
            · rename_i L hL
              try simp only [hL]
              simp only [Option.some.injEq, Prod.mk.injEq] at h
              obtain ⟨rfl, rfl⟩ := h
              exact ⟨hC, hK⟩
            · cases h
          · cases h
        · cases h
      · cases h
  · rename_i g hg
    simp only [hg]
    split at h
    · rename_i c hc
      try simp only [hc]
      split at h
      · rename_i C1 A1 hp
        simp only [Option.some.injEq, Prod.mk.injEq] at h
        obtain ⟨rfl, rfl⟩ := h
        try simp only [hp]
        exact ⟨hC, hK⟩
      · cases h
    · cases h

theorem runD_acc {ops : List Oper} {H : List AObj} : ∀ (n : Nat) (l : List Oper) (acc : Prop) (S S' : List AV) (C : Prop) (l' : List Oper), runD tt ops H n l acc S = some (C, S', l') → C → acc := by
  intro n
  induction n with
  | zero => intro l acc s s' C l' h hC; simp only [runD, Option.some.injEq, Prod.mk.injEq] at h; rw [h.1]; exact hC
  | succ n ih =>
    intro l acc s s' C l' h hC
    cases l with
    | nil => simp only [runD, Option.some.injEq, Prod.mk.injEq] at h; rw [h.1]; exact hC
    | cons o l =>
      simp only [runD] at h
      split at h
      · exact (ih l _ _ _ _ _ h hC).1
      · cases h

theorem runD_sound {ops : List Oper} {H : List AObj} {K : List AV → Prop} : ∀ (n : Nat) (l : List Oper) (acc : Prop) (S S' : List AV) (C : Prop) (l' : List Oper), runD tt ops H n l acc S = some (C, S', l') → C → dopsW P tt ops l' H S' K → dopsW P tt ops l H S K := by
  intro n
  induction n with
  | zero =>
    intro l acc S S' C l' h _ hK
    simp only [runD, Option.some.injEq, Prod.mk.injEq] at h
    obtain ⟨_, rfl, rfl⟩ := h
    exact hK
  | succ n ih =>
    intro l acc S S' C l' h hC hK
    cases l with
    | nil =>
      simp only [runD, Option.some.injEq, Prod.mk.injEq] at h
      obtain ⟨_, rfl, rfl⟩ := h
      exact hK
    | cons o l =>
      simp only [runD] at h
      split at h
      · rename_i C1 A1 h1
        unfold dopsW
        exact runDO_sound h1 (runD_acc n l _ _ S' C l' h hC).2 (ih l _ _ S' C l' h hC hK)
      · cases h

/-- A region that draws: n operations in whatever order, the others behind them. -/
theorem G.draw (hF : Fits P tt) (hmix : P.follows .mixedOrders = true) {id : Nat} {l l1 l2 : List Oper} (n : Nat) (hchk : drawOK l n = true) (h1 : l.take n = l1) (h2 : l.drop n = l2)
    (h : dopsW P tt l l1 s.heap s.slots (fun S => opsW P tt 0 l l2 ⟨S, s.heap⟩ (Goes P w0 Q k))) : Goes P w0 Q (.code (.region id l.toArray true) :: k) s := by
  subst h1
  subst h2
  unfold Goes
  exact SW.drawn hF hmix n hchk h

/-- The same without calls and without a rest. -/
theorem G.drawRun (hF : Fits P tt) (hmix : P.follows .mixedOrders = true) {id : Nat} {l : List Oper} {C : Prop} {S' : List AV} (hchk : drawOK l l.length = true) (hr : runD tt l s.heap l.length l True s.slots = some (C, S', [])) (hC : C)
    (h : Goes P w0 Q k ⟨S', s.heap⟩) : Goes P w0 Q (.code (.region id l.toArray true) :: k) s := by
  refine G.draw hF hmix l.length hchk (List.take_length ..) (List.drop_length ..) ?_
  exact runD_sound l.length l True s.slots S' C [] hr hC h

theorem D.run {ops l : List Oper} {H : List AObj} {S : List AV} {K : List AV → Prop} (n : Nat) {C : Prop} {S' : List AV} {l' : List Oper} (hr : runD tt ops H n l True S = some (C, S', l')) (hC : C) (h : dopsW P tt ops l' H S' K) : dopsW P tt ops l H S K :=
  runD_sound n l True S S' C l' hr hC h
theorem D.nil {ops : List Oper} {H : List AObj} {S : List AV} {K : List AV → Prop} (h : K S) : dopsW P tt ops [] H S K := h
theorem D.call {ops rest : List Oper} {H : List AObj} {S : List AV} {K : List AV → Prop} {dst : Option Tmp} {f : Operand} {args : List Operand} {ts : Array TypeId} {ty : TypeId} {pos : String} {after : Array Edge} {fid : FuncId} {kc : Nat} {caps : Nat → AV} {args' : List AV} {r : AV}
    (hf : evO S f = .fn fid kc caps) (hc : Con P fid args' (isV r)) (hn : ∀ x ∈ args, (evO S x).need) (hsub : SubL H (args.map (fun x => (evO S x).get) ++ (List.range kc).map caps) args')
    (h : dopsW P tt ops rest H (putS S dst r) K) : dopsW P tt ops (⟨dst, .call ⟨.value f, args.toArray, ts⟩, ty, pos, after, none⟩ :: rest) H S K := by
  unfold dopsW dopW
  simp only [pvO, hf]
  exact ⟨r, ⟨trivial, by simpa using hn, args', by simpa using hsub, hc⟩, h⟩
theorem D.callG {ops rest : List Oper} {H : List AObj} {S : List AV} {K : List AV → Prop} {dst : Option Tmp} {f : Operand} {args : List Operand} {ts : Array TypeId} {ty : TypeId} {pos : String} {after : Array Edge} {g : Nat × Bool} {fid : FuncId} {kc : Nat} {caps : Nat → AV} {args' : List AV} {r : AV} {c : Bool}
    (hg : guardOf ops S g = some c) (hf : evO S f = .fn fid kc caps) (hc : c = true → Con P fid args' (isV r)) (hn : c = true → ∀ x ∈ args, (evO S x).need) (hsub : c = true → SubL H (args.map (fun x => (evO S x).get) ++ (List.range kc).map caps) args')
    (h : dopsW P tt ops rest H (putS S dst (.cond c r)) K) : dopsW P tt ops (⟨dst, .call ⟨.value f, args.toArray, ts⟩, ty, pos, after, some g⟩ :: rest) H S K := by
  unfold dopsW dopW
  simp only [hg, pvO]
  refine ⟨r, fun hct => ?_, h⟩
  simp only [hf]
  exact ⟨trivial, by simpa using hn hct, args', by simpa using hsub hct, hc hct⟩

/-- A loop. -/
theorem G.loop {ι : Type} {body : Code} (I : ι → AS) (ok : ι → Prop) (μ : ι → Nat) (i0 : ι) (h0 : ok i0) (hs : SLe s (I i0))
    (round : ∀ i, ok i → Goes P w0 Q (.code body :: .endLoop (fun s' => ∃ j, ok j ∧ μ j < μ i ∧ SLe s' (I j)) :: k) (I i)) : Goes P w0 Q (.code (.loop body) :: k) s := by
  unfold Goes
  refine SW.loop I ok μ i0 h0 hs fun i hi => ?_
  have := round i hi
  unfold Goes at this
  refine SW.mono ?_ this
  intro e s' hq
  cases e with
  | normal => simpa [Then, Goes] using hq
  | exit id => simpa [Then, Goes.exitK] using hq
  | _ => simpa [Then] using hq

theorem Con.of_goes {f : FuncId} {fn : Func} {c : Code} (hf : P.funcs[f]? = some fn) (hname : (fn.name == "runtime.NumGoroutine") = false) (hb : fn.body = some c) {args : List AV} (hnf : ∀ A ∈ args, NoFresh A) {post : List AObj → AV → Prop} {S : List AV}
    (hS : args ++ List.replicate (fn.ntmps - args.length) .any = S) (h : ∀ w0, Goes P w0 (RetQ P fn post) [.code c] ⟨S, []⟩) : Con P f args post :=
  Con.of_body hf hname hb hnf fun w0 => by rw [hS]; exact G.start (h w0)

theorem Con.weaken {f : FuncId} {args : List AV} {post post' : List AObj → AV → Prop} (h : Con P f args post) (hp : ∀ H A, post H A → post' H A) : Con P f args post' := h.mono hp

end
end Go.Abs
