/- Plain law of texts in which all that begins ends: what is kept of a text, and what ends it, leaves nothing loose. No Go and no memory in it. -/
namespace Go.Proofs.Ytfkgjoflekemaaa.UEven
set_option linter.unusedVariables false
set_option linter.unusedSimpArgs false
def isoB (c : Int) : Bool := decide (19 ≤ c) && decide (c ≤ 21)
def embB (c : Int) : Bool := decide (14 ≤ c) && decide (c ≤ 17)
/-- kinds of what is open: true for an isolate; the last one is ahead -/
def popK : List Bool → Option (List Bool)
  | [] => none
  | true :: s => some s
  | false :: s => popK s
def stepK (s : List Bool) (c : Int) : Option (List Bool) :=
  if embB c then some (false :: s) else if isoB c then some (true :: s)
  else if c = 18 then (match s with | false :: t => some t | _ => none)
  else if c = 22 then popK s else some s
def runK : List Bool → List Int → Option (List Bool)
  | s, [] => some s
  | s, c :: r => (stepK s c).bind fun t => runK t r
def keepC (cl : Int → Int) : List Bool → List Int → List Int
  | _, [] => []
  | s, x :: r => match stepK s (cl x) with
    | some t => x :: keepC cl t r
    | none => keepC cl s r
def finC (cl : Int → Int) : List Bool → List Int → List Bool
  | s, [] => s
  | s, x :: r => match stepK s (cl x) with
    | some t => finC cl t r
    | none => finC cl s r
def endsK (s : List Bool) : List Int := s.map fun b => if b then 0x2069 else 0x202C
def even (cl : Int → Int) (l : List Int) : List Int := keepC cl [] l ++ endsK (finC cl [] l)
def isol (cl : Int → Int) (d : Int) (l : List Int) : List Int := (0x2066 + d) :: (even cl l ++ [0x2069])
theorem runK_append (x y : List Int) : ∀ s, runK s (x ++ y) = (runK s x).bind fun t => runK t y := by
  induction x with
  | nil => intro s; rfl
  | cons c r ih =>
    intro s
    show (stepK s c).bind (fun t => runK t (r ++ y)) = ((stepK s c).bind fun t => runK t r).bind _
    cases stepK s c with
    | none => rfl
    | some t => exact ih t
theorem run_keep (cl : Int → Int) (l : List Int) : ∀ s, runK s ((keepC cl s l).map cl) = some (finC cl s l) := by
  induction l with
  | nil => intro s; rfl
  | cons x r ih =>
    intro s
    unfold keepC finC
    cases h : stepK s (cl x) with
    | none => exact ih s
    | some t =>
      dsimp only
      show (stepK s (cl x)).bind _ = _
      rw [h]
      exact ih t
theorem run_ends (cl : Int → Int) (h1 : cl 0x2069 = 22) (h2 : cl 0x202C = 18) (s : List Bool) : runK s ((endsK s).map cl) = some [] := by
  induction s with
  | nil => rfl
  | cons b t ih =>
    cases b with
    | true =>
      show (stepK (true :: t) (cl 0x2069)).bind _ = _
      rw [h1]
      exact ih
    | false =>
      show (stepK (false :: t) (cl 0x202C)).bind _ = _
      rw [h2]
      exact ih
theorem popK_append (u : List Bool) : ∀ s t, popK s = some t → popK (s ++ u) = some (t ++ u) := by
  intro s
  induction s with
  | nil => intro t h; cases h
  | cons b r ih =>
    intro t h
    cases b with
    | true => obtain rfl := Option.some.inj h; rfl
    | false => exact ih t h
theorem stepK_append (u : List Bool) (s t : List Bool) (c : Int) (h : stepK s c = some t) : stepK (s ++ u) c = some (t ++ u) := by
  unfold stepK at h ⊢
  split at h
  · rename_i h1; rw [if_pos h1]; obtain rfl := Option.some.inj h; rfl
  · rename_i h1
    rw [if_neg h1]
    split at h
    · rename_i h2; rw [if_pos h2]; obtain rfl := Option.some.inj h; rfl
    · rename_i h2
      rw [if_neg h2]
      split at h
      · rename_i h3
        rw [if_pos h3]
        split at h
        · obtain rfl := Option.some.inj h; rfl
        · cases h
      · rename_i h3
        rw [if_neg h3]
        split at h
        · rename_i h4; rw [if_pos h4]; exact popK_append u s t h
        · rename_i h4; rw [if_neg h4]; obtain rfl := Option.some.inj h; rfl
theorem runK_frame (u : List Bool) (l : List Int) : ∀ s t, runK s l = some t → runK (s ++ u) l = some (t ++ u) := by
  induction l with
  | nil => intro s t h; obtain rfl := Option.some.inj h; rfl
  | cons c r ih =>
    intro s t h
    have h' : (stepK s c).bind (fun t => runK t r) = some t := h
    show (stepK (s ++ u) c).bind (fun t => runK t r) = _
    cases hs : stepK s c with
    | none => rw [hs] at h'; cases h'
    | some v =>
      rw [hs] at h'
      rw [stepK_append u s v c hs]
      exact ih v t h'
theorem run_even (cl : Int → Int) (h1 : cl 0x2069 = 22) (h2 : cl 0x202C = 18) (l : List Int) : runK [] ((even cl l).map cl) = some [] := by
  unfold even
  rw [List.map_append, runK_append, run_keep]
  exact run_ends cl h1 h2 _
theorem run_isol (cl : Int → Int) (h1 : cl 0x2069 = 22) (h2 : cl 0x202C = 18) (d : Int) (h3 : isoB (cl (0x2066 + d)) = true) (l : List Int) : runK [] ((isol cl d l).map cl) = some [] := by
  unfold isol
  rw [List.map_cons, List.map_append]
  show (stepK [] (cl (0x2066 + d))).bind _ = _
  have e : stepK [] (cl (0x2066 + d)) = some [true] := by
    unfold stepK
    have : embB (cl (0x2066 + d)) = false := by
      unfold isoB at h3; unfold embB
      simp at h3 ⊢; omega
    rw [this, h3]; rfl
  rw [e]
  show runK [true] _ = _
  rw [runK_append, show [true] = [] ++ [true] from rfl, runK_frame [true] _ [] [] (run_even cl h1 h2 l)]
  show (stepK [true] (cl 0x2069)).bind _ = _
  rw [h1]; rfl
/-- the places of what is loose -/
def looseK : List Bool → Nat → List Int → List Int
  | _, _, [] => []
  | s, i, c :: r => match stepK s c with
    | some t => looseK t (i + 1) r
    | none => (i : Int) :: looseK s (i + 1) r
theorem loose_run (l : List Int) : ∀ s i t, runK s l = some t → looseK s i l = [] := by
  induction l with
  | nil => intro s i t _; rfl
  | cons c r ih =>
    intro s i t h
    have h' : (stepK s c).bind (fun t => runK t r) = some t := h
    unfold looseK
    cases hs : stepK s c with
    | none => rw [hs] at h'; cases h'
    | some v => rw [hs] at h'; exact ih v (i + 1) t h'
/-- nothing is loose in texts by themselves, one behind the other -/
theorem loose_two (cl : Int → Int) (h1 : cl 0x2069 = 22) (h2 : cl 0x202C = 18) (d : Int) (h3 : isoB (cl (0x2066 + d)) = true) (a b : List Int) : looseK [] 0 ((isol cl d a ++ isol cl d b).map cl) = [] := by
  refine loose_run _ [] 0 [] ?_
  rw [List.map_append, runK_append, run_isol cl h1 h2 d h3]
  exact run_isol cl h1 h2 d h3 b
/-! ### the same with places on the stack -/
structure W where
  stack : List Int
  lost : List Int
  loose : List Int
/-- what a PDI takes off: what was beside its isolate (the last one ahead), and what stays -/
def popI (k : Int → Bool) : List Int → Option (List Int × List Int)
  | [] => none
  | i :: s => if k i then some ([], s) else (popI k s).map fun p => (i :: p.1, p.2)
def stepW (cls : Int → Int) (st : W) (i : Int) (c : Int) : W :=
  if embB c || isoB c then { st with stack := i :: st.stack }
  else if c = 18 then (match st.stack with
    | j :: s => if embB (cls j) then { st with stack := s } else { st with loose := st.loose ++ [i] }
    | [] => { st with loose := st.loose ++ [i] })
  else if c = 22 then (match popI (fun j => isoB (cls j)) st.stack with
    | some p => { st with stack := p.2, lost := st.lost ++ p.1 }
    | none => { st with loose := st.loose ++ [i] })
  else st
def walkW (cls : Int → Int) : W → Nat → List Int → W
  | st, _, [] => st
  | st, i, c :: r => walkW cls (stepW cls st i c) (i + 1) r
theorem popI_kinds (k : Int → Bool) (s : List Int) : popK (s.map k) = (popI k s).map fun p => p.2.map k := by
  induction s with
  | nil => rfl
  | cons i t ih =>
    unfold popI
    rw [List.map_cons]
    cases h : k i with
    | true => simp [popK]
    | false =>
      show popK (t.map k) = _
      rw [ih]
      cases popI k t with
      | none => rfl
      | some p => rfl
def Opened (cls : Int → Int) (s : List Int) : Prop := ∀ j ∈ s, (embB (cls j) || isoB (cls j)) = true
theorem popI_mem (k : Int → Bool) (s : List Int) : ∀ p, popI k s = some p → ∀ j ∈ p.2, j ∈ s := by
  induction s with
  | nil => intro p h; cases h
  | cons i t ih =>
    intro p h j hj
    unfold popI at h
    split at h
    · obtain rfl := Option.some.inj h
      exact List.mem_cons_of_mem _ hj
    · obtain ⟨q, hq, rfl⟩ := Option.map_eq_some_iff.1 h
      exact List.mem_cons_of_mem _ (ih q hq j hj)
theorem stepW_kinds (cls : Int → Int) (st : W) (i : Int) (c : Int) (hc : cls i = c) (ho : Opened cls st.stack) :
    (match stepK (st.stack.map fun j => isoB (cls j)) c with
      | some t => (stepW cls st i c).stack.map (fun j => isoB (cls j)) = t ∧ (stepW cls st i c).loose = st.loose
      | none => (stepW cls st i c).stack = st.stack ∧ (stepW cls st i c).loose = st.loose ++ [i]) ∧ Opened cls (stepW cls st i c).stack := by
  unfold stepK stepW
  by_cases h1 : embB c = true
  · rw [if_pos h1, if_pos (by rw [h1]; rfl)]
    refine ⟨⟨?_, rfl⟩, fun j hj => ?_⟩
    · rw [List.map_cons, hc]
      have : isoB c = false := by unfold embB at h1; unfold isoB; simp at h1 ⊢; omega
      rw [this]
    · rcases List.mem_cons.1 hj with rfl | hj
      · rw [hc, h1]; rfl
      · exact ho j hj
  · rw [if_neg h1]
    by_cases h2 : isoB c = true
    · rw [if_pos h2, if_pos (by rw [h2]; simp)]
      refine ⟨⟨by rw [List.map_cons, hc, h2], rfl⟩, fun j hj => ?_⟩
      rcases List.mem_cons.1 hj with rfl | hj
      · rw [hc, h2]; simp
      · exact ho j hj
    · have hor : ¬ (embB c || isoB c) = true := by rw [Bool.or_eq_true]; exact fun h => h.elim h1 h2
      rw [if_neg h2, if_neg hor]
      by_cases h3 : c = 18
      · rw [if_pos h3, if_pos h3]
        cases hs : st.stack with
        | nil => exact ⟨⟨by simp, rfl⟩, fun j hj => by simp [hs] at hj⟩
        | cons j s =>
          dsimp only
          rw [List.map_cons]
          have hj := ho j (by rw [hs]; exact List.mem_cons_self)
          have hs' : Opened cls s := fun x hx => ho x (by rw [hs]; exact List.mem_cons_of_mem _ hx)
          cases he : embB (cls j) with
          | true =>
            have : isoB (cls j) = false := by unfold embB at he; unfold isoB; simp at he ⊢; omega
            rw [this]
            simp
            exact hs'
          | false =>
            rw [he] at hj
            simp at hj
            rw [hj]
            simp [hs]
            exact hs ▸ ho
      · rw [if_neg h3, if_neg h3]
        by_cases h4 : c = 22
        · rw [if_pos h4, if_pos h4, popI_kinds]
          cases hp : popI (fun j => isoB (cls j)) st.stack with
          | none => exact ⟨⟨rfl, rfl⟩, ho⟩
          | some p => exact ⟨⟨rfl, rfl⟩, fun j hj => ho j (popI_mem _ _ p hp j hj)⟩
        · rw [if_neg h4, if_neg h4]
          exact ⟨⟨rfl, rfl⟩, ho⟩
theorem walk_kinds (cl : Int → Int) (cls : Int → Int) (l : List Int) : ∀ (st : W) (i : Nat), (∀ (k : Nat) (hk : k < l.length), cls ((i + k : Nat) : Int) = cl l[k]) → Opened cls st.stack →
    (walkW cls st i (l.map cl)).stack.map (fun j => isoB (cls j)) = finC cl (st.stack.map fun j => isoB (cls j)) l ∧
    (walkW cls st i (l.map cl)).loose = st.loose ++ looseK (st.stack.map fun j => isoB (cls j)) i (l.map cl) ∧ Opened cls (walkW cls st i (l.map cl)).stack := by
  induction l with
  | nil => intro st i _ ho; exact ⟨rfl, by simp [walkW, looseK], ho⟩
  | cons x r ih =>
    intro st i hc ho
    rw [List.map_cons]
    unfold walkW looseK finC
    have h0 := hc 0 (by simp)
    simp at h0
    obtain ⟨h1, h2⟩ := stepW_kinds cls st i (cl x) h0 ho
    have ih' := ih (stepW cls st i (cl x)) (i + 1) (fun k hk => by
      have := hc (k + 1) (by simp; omega)
      simp at this
      rw [show ((i + 1 + k : Nat) : Int) = (i : Int) + ((k : Int) + 1) by omega]
      exact this) h2
    cases hs : stepK (st.stack.map fun j => isoB (cls j)) (cl x) with
    | none =>
      rw [hs] at h1
      dsimp only at h1 ⊢
      rw [h1.1, h1.2] at ih'
      refine ⟨ih'.1, ?_, ih'.2.2⟩
      rw [ih'.2.1, List.append_assoc]
      rfl
    | some t =>
      rw [hs] at h1
      dsimp only at h1 ⊢
      rw [h1.1, h1.2] at ih'
      exact ih'
/-- what stays: the codes of the places that are not loose -/
def stays (loose codes : List Int) : Nat → Nat → List Int
  | _, 0 => []
  | i, n + 1 => if (i : Int) ∈ loose then stays loose codes (i + 1) n else codes.getD i 0 :: stays loose codes (i + 1) n
theorem loose_ge (l : List Int) : ∀ s (i : Nat) (j : Int), j ∈ looseK s i l → (i : Int) ≤ j := by
  induction l with
  | nil => intro s i j h; simp [looseK] at h
  | cons c r ih =>
    intro s i j h
    unfold looseK at h
    split at h
    · have := ih _ _ _ h; omega
    · rcases List.mem_cons.1 h with rfl | h
      · omega
      · have := ih _ _ _ h; omega
theorem stays_keep (cl : Int → Int) (l : List Int) : ∀ (s : List Bool) (i : Nat) (pre : List Int) (loose codes : List Int), loose = pre ++ looseK s i (l.map cl) → (∀ j ∈ pre, j < (i : Int)) → (∀ (k : Nat) (hk : k < l.length), codes.getD (i + k) 0 = l[k]) →
    stays loose codes i l.length = keepC cl s l := by
  induction l with
  | nil => intro s i pre loose codes _ _ _; rfl
  | cons x r ih =>
    intro s i pre loose codes hl hp hc
    have h0 := hc 0 (by simp)
    simp at h0
    unfold keepC
    rw [List.length_cons]
    unfold stays
    rw [List.map_cons] at hl
    unfold looseK at hl
    have hc' : ∀ (k : Nat) (hk : k < r.length), codes.getD (i + 1 + k) 0 = r[k] := fun k hk => by
      have := hc (k + 1) (by simp; omega)
      rw [show i + 1 + k = i + (k + 1) by omega, this]
      rfl
    cases hs : stepK s (cl x) with
    | none =>
      rw [hs] at hl
      dsimp only at hl ⊢
      rw [if_pos (by rw [hl]; simp)]
      exact ih s (i + 1) (pre ++ [(i : Int)]) loose codes (by rw [hl, List.append_assoc]; rfl) (fun j hj => by
        rcases List.mem_append.1 hj with hj | hj
        · have := hp j hj; omega
        · simp at hj; omega) hc'
    | some t =>
      rw [hs] at hl
      dsimp only at hl ⊢
      rw [if_neg (by
        rw [hl]
        intro hm
        rcases List.mem_append.1 hm with hm | hm
        · have := hp _ hm; omega
        · have := loose_ge _ _ _ _ hm; omega)]
      rw [ih t (i + 1) pre loose codes hl (fun j hj => by have := hp j hj; omega) hc']
      have : codes.getD i 0 = x := by rw [List.getD_eq_getElem?_getD]; exact h0
      rw [this]
def ends (cls : Int → Int) (s : List Int) : List Int := s.map fun j => if isoB (cls j) then 0x2069 else 0x202C
/-- the whole: what stays, and what ends, is the even text -/
theorem even_of_walk (cl : Int → Int) (l : List Int) (cls : Int → Int) (hc : ∀ (k : Nat) (hk : k < l.length), cls (k : Int) = cl l[k]) :
    stays (walkW cls ⟨[], [], []⟩ 0 (l.map cl)).loose l 0 l.length ++ ends cls (walkW cls ⟨[], [], []⟩ 0 (l.map cl)).stack = even cl l := by
  obtain ⟨h1, h2, _⟩ := walk_kinds cl cls l ⟨[], [], []⟩ 0 (by simpa using hc) (fun j hj => by simp at hj)
  unfold even
  rw [stays_keep cl l [] 0 [] _ l (by rw [h2]; rfl) (fun j hj => by simp at hj) (fun k hk => by simp [List.getElem?_eq_getElem hk])]
  congr 1
  unfold ends endsK
  rw [show finC cl [] l = finC cl (List.map (fun j => isoB (cls j)) (⟨[], [], []⟩ : W).stack) l from rfl, ← h1, List.map_map]
  rfl
end Go.Proofs.Ytfkgjoflekemaaa.UEven
