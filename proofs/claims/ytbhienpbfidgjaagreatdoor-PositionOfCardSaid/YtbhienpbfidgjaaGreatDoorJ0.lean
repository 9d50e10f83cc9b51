/- Comparing structs of numbers, truths and strings. Conditions: as in each theorem. A reading of Go's values as plain data, and of a frame as data. Conditions: none; what the words mean is said at each. What an operation gives on plain data. Conditions: as in each definition. A code's run on plain data. Conditions: as in each definition. What is known of the types of the program. Conditions: none. Operations that touch no memory: what they give on plain data they give in the machine. Conditions: as in each theorem. Parts of structs and arrays; memory read. Conditions: as in each theorem. Memory: loads, lengths, indices. Conditions: as in each theorem. Memory: what is made and what is written. Conditions: as in each theorem. Memory: structs, slices built, appended to, cut. Conditions: as in each theorem. Memory: slices appended to and cut. Conditions: as in each theorem. An operation on plain data is what the machine does. Conditions: as in each theorem. Calls on plain data. Conditions: as in each theorem. An operation on a frame. Conditions: as in each theorem. A region in the order of its text. Conditions: as in each theorem. A region in whatever order: what an operation rests on, what it turns. Conditions: as in each theorem. -/
import Derived.Calls
import Derived.Laws.Sem
import Derived.Laws.StructEq
import Derived.DeepKeys
import Derived.Below
import Derived.Orders
import Derived.Test.YtbhienpbfidgjaaGreatDoorProg
import Derived.KernelRfl
import Derived.Laws.Closers25b
import Derived.Laws.Entries
import Derived.WalkSpells
import Derived.Lib.SliceRun
import Derived.Laws.Rows
import Derived.Laws.Cells
import Derived.Laws.OwnMore
import Derived.Laws.Slices
import Derived.Laws.CopyRow
import Derived.Laws.NewBlocks
import Derived.Laws.AppendOwn
import Derived.Laws.Append
import Derived.Laws.BytesArg
set_option linter.unusedVariables false
set_option linter.unusedSimpArgs false
namespace Go.Proofs.YtbhienpbfidgjaaGreatDoor
open Go.RowKit
section
namespace E
inductive LK where
  | b | i (k : IntKind) | s
  deriving DecidableEq
def leafFs (P : Program) (L : TypeId → Option (List LK)) : List Field → Nat → Option (List LK)
  | [], _ => some []
  | f :: fs, n => if f.name = "_" ∨ f.offset ≠ n then none else match L f.type with
    | some ks => if ks.length = P.cellsOf f.type then match leafFs P L fs (n + ks.length) with
      | some l => some (ks ++ l)
      | none => none
      else none
    | none => none
def leafs (P : Program) : Nat → TypeId → Option (List LK)
  | 0, _ => none
  | d + 1, t => match P.underlying t with
    | some .bool => some [.b]
    | some (.int k) => some [.i k]
    | some .string => some [.s]
    | some (.struct fs) => if P.stoodInHeld t = true then none else leafFs P (leafs P d) fs.toList 0
    | _ => none
def LK.fit : LK → Value → Bool
  | .b, .bool _ => true
  | .i k, .int k' _ => k == k'
  | .s, .string _ => true
  | _, _ => false
def fits : List LK → List Value → Bool
  | [], [] => true
  | k :: ks, v :: vs => k.fit v && fits ks vs
  | _, _ => false
def eqV : Value → Value → Bool
  | .bool a, .bool b => a == b
  | .int _ a, .int _ b => a == b
  | .string a, .string b => decide (a = b)
  | _, _ => false
def eqVs : List Value → List Value → Bool
  | x :: xs, y :: ys => eqV x y && eqVs xs ys
  | _, _ => true
theorem fits_len : ∀ (ks : List LK) (vs : List Value), fits ks vs = true → vs.length = ks.length
  | [], [], _ => rfl
  | _ :: _, [], h => by simp [fits] at h
  | [], _ :: _, h => by simp [fits] at h
  | k :: ks, v :: vs, h => by
    simp only [fits, Bool.and_eq_true] at h
    simp [fits_len ks vs h.2]
theorem fits_app : ∀ (ks ls : List LK) (vs : List Value), fits (ks ++ ls) vs = true → fits ks (vs.take ks.length) = true ∧ fits ls (vs.drop ks.length) = true
  | [], ls, vs, h => by simpa [fits] using h
  | k :: ks, ls, [], h => by simp [fits] at h
  | k :: ks, ls, v :: vs, h => by
    simp only [List.cons_append, fits, Bool.and_eq_true] at h
    obtain ⟨h1, h2⟩ := fits_app ks ls vs h.2
    simp only [List.length_cons, List.take_succ_cons, List.drop_succ_cons, fits, Bool.and_eq_true]
    exact ⟨⟨h.1, h1⟩, h2⟩
theorem eqVs_app : ∀ (n : Nat) (xs ys : List Value), n ≤ xs.length → n ≤ ys.length → eqVs xs ys = (eqVs (xs.take n) (ys.take n) && eqVs (xs.drop n) (ys.drop n))
  | 0, xs, ys, _, _ => by simp [eqVs]
  | n + 1, [], _, h, _ => by simp at h
  | n + 1, _ :: _, [], _, h => by simp at h
  | n + 1, x :: xs, y :: ys, h, h' => by
    simp only [List.take_succ_cons, List.drop_succ_cons, eqVs]
    rw [eqVs_app n xs ys (by simpa using h) (by simpa using h'), Bool.and_assoc]
section
variable {P : Program}
theorem ba_dec (a b : ByteArray) : (a == b) = decide (a = b) := by
  rw [Bool.eq_iff_iff, decide_eq_true_eq]
  constructor
  · intro h
    rw [beq_toListBytes, beq_iff_eq, ByteArray.toList_eq, ByteArray.toList_eq] at h
    exact ByteArray.ext (Array.ext' h)
  · rintro rfl
    rw [beq_toListBytes]
    simp
def LeafOK (P : Program) (d : Nat) (t : TypeId) (ks : List LK) : Prop :=
  ∀ (w : World) (e off : Nat) (xs ys : Array Value), d ≤ e → fits ks ((xs.toList.drop off).take ks.length) = true → fits ks ((ys.toList.drop off).take ks.length) = true →
    ∃ a b, (part t xs off).run P w = .ok a w ∧ (part t ys off).run P w = .ok b w ∧ (Op.equalIn e t a b).run P w = .ok (eqVs ((xs.toList.drop off).take ks.length) ((ys.toList.drop off).take ks.length)) w
theorem one_at {xs : Array Value} {off : Nat} {k : LK} (h : fits [k] ((xs.toList.drop off).take 1) = true) : ∃ v, xs[off]? = some v ∧ k.fit v = true ∧ (xs.toList.drop off).take 1 = [v] := by
  cases hd : xs.toList.drop off with
  | nil => rw [hd] at h; simp [fits] at h
  | cons v r =>
    rw [hd] at h
    refine ⟨v, ?_, by simpa [fits] using h, by simp⟩
    have := congrArg (fun l : List Value => l[0]?) hd
    simpa using this
theorem plain_at {t : TypeId} (hp : P.plainKey t = true) {k : LK} (hk : ∀ (w : World) (e : Nat) (x y : Value), k.fit x = true → k.fit y = true → (Op.equalIn (e + 1) t x y).run P w = .ok (eqV x y) w) (d : Nat) : LeafOK P (d + 1) t [k] := by
  intro w e off xs ys he hx hy
  obtain ⟨x, x1, x2, x3⟩ := one_at hx
  obtain ⟨y, y1, y2, y3⟩ := one_at hy
  obtain ⟨e', rfl⟩ : ∃ e', e = e' + 1 := ⟨e - 1, by omega⟩
  refine ⟨x, y, run_part_plain w hp x1, run_part_plain w hp y1, ?_⟩
  rw [hk w e' x y x2 y2]
  simp only [List.length_singleton]
  rw [x3, y3]
  simp [eqVs]
theorem fields_ok {d : Nat} {L : TypeId → Option (List LK)} (hL : ∀ t ks, L t = some ks → ks.length = P.cellsOf t → LeafOK P d t ks) (w : World) (e : Nat) (he : d ≤ e) (xs ys : Array Value) : ∀ (fs : List Field) (n : Nat) (ks : List LK), leafFs P L fs n = some ks →
    fits ks (xs.toList.drop n) = true → fits ks (ys.toList.drop n) = true → (Op.eqFields e xs ys fs).run P w = .ok (eqVs (xs.toList.drop n) (ys.toList.drop n)) w
  | [], n, ks, h, hx, hy => by
    simp only [leafFs, Option.some.injEq] at h
    subst h
    have h1 : xs.toList.drop n = [] := by
      cases hd : xs.toList.drop n with
      | nil => rfl
      | cons v r => rw [hd] at hx; simp [fits] at hx
    rw [h1]
    simp [Op.eqFields, eqVs]
  | f :: fs, n, ks, h, hx, hy => by
    simp only [leafFs] at h
    split at h
    · cases h
    · rename_i hc
      simp only [not_or, Decidable.not_not] at hc
      obtain ⟨hn, ho⟩ := hc
      split at h
      · rename_i k0 hk0
        split at h
        · rename_i hsz
          split at h
          · rename_i l hl
            simp only [Option.some.injEq] at h
            subst h
            obtain ⟨x1, x2⟩ := fits_app k0 l _ hx
            obtain ⟨y1, y2⟩ := fits_app k0 l _ hy
            obtain ⟨a, b, pa, pb, pe⟩ := hL f.type k0 hk0 hsz w e n xs ys he x1 y1
            rw [List.drop_drop] at x2 y2
            have ih := fields_ok hL w e he xs ys fs (n + k0.length) l hl x2 y2
            have lx := fits_len _ _ hx
            have ly := fits_len _ _ hy
            simp only [List.length_append] at lx ly
            rw [eqVs_app k0.length (xs.toList.drop n) (ys.toList.drop n) (by omega) (by omega), List.drop_drop, List.drop_drop]
            simp only [Op.eqFields, ne_eq, hn, not_false_eq_true, if_true, ho, Sem.run_bind, pa, pb, pe, Result.andThen_ok, Sem.run_ite]
            cases hq : eqVs ((xs.toList.drop n).take k0.length) ((ys.toList.drop n).take k0.length)
            · simp
            · simpa using ih
          · cases h
        · cases h
      · cases h
theorem leaf_ok : ∀ (d : Nat) (t : TypeId) (ks : List LK), leafs P d t = some ks → ks.length = P.cellsOf t → LeafOK P d t ks
  | 0, t, ks, h, _ => by simp [leafs] at h
  | d + 1, t, ks, h, hsz => by
    cases hu : P.underlying t with
    | none => simp [leafs, hu] at h
    | some kd =>
      cases kd
      case bool =>
        simp only [leafs, hu, Option.some.injEq] at h
        subst h
        refine plain_at (by simp [Program.plainKey, hu]) (fun w e x y hx hy => ?_) d
        cases x <;> simp [LK.fit] at hx
        cases y <;> simp [LK.fit] at hy
        exact run_equalIn_bool' w e t _ _ hu
      case int k =>
        simp only [leafs, hu, Option.some.injEq] at h
        subst h
        refine plain_at (by simp [Program.plainKey, hu]) (fun w e x y hx hy => ?_) d
        cases x <;> simp [LK.fit] at hx
        cases y <;> simp [LK.fit] at hy
        subst hx hy
        exact run_equalIn_int w e t _ _ _ _ hu
      case string =>
        simp only [leafs, hu, Option.some.injEq] at h
        subst h
        refine plain_at (by simp [Program.plainKey, hu]) (fun w e x y hx hy => ?_) d
        cases x <;> simp [LK.fit] at hx
        cases y <;> simp [LK.fit] at hy
        rw [run_equalIn_string w e t _ _ hu, ← beq_toListBytes, ba_dec]
        rfl
      case struct fs =>
        simp only [leafs, hu] at h
        split at h
        · cases h
        · rename_i hst
          obtain ⟨i, hi⟩ := info_of_underlying hu
          have hn : i.size = ks.length := by rw [hsz]; simp [Program.cellsOf, hi]
          intro w e off xs ys he hx hy
          obtain ⟨e', rfl⟩ : ∃ e', e = e' + 1 := ⟨e - 1, by omega⟩
          have hl : ∀ zs : Array Value, (zs.extract off (off + ks.length)).toList = (zs.toList.drop off).take ks.length := fun zs => by
            rw [Array.toList_extract]
            simp [List.extract]
          have hp : ∀ zs : Array Value, (part t zs off).run P w = .ok (.agg (zs.extract off (off + ks.length))) w := fun zs => by
            simp [part, isAgg, run_underlying hu, run_sizeOf w hi, hn, hsz]
          refine ⟨_, _, hp xs, hp ys, ?_⟩
          have hf : P.fieldsOf t = fs := by simp [Program.fieldsOf, hu]
          rw [run_equalIn_agg w e' t _ _ (by rw [hf]; exact hu) (by simpa using hst), hf]
          have := fields_ok (leaf_ok d) w e' (by omega) (xs.extract off (off + ks.length)) (ys.extract off (off + ks.length)) fs.toList 0 ks h (by rw [List.drop_zero, hl]; exact hx) (by rw [List.drop_zero, hl]; exact hy)
          rw [List.drop_zero, List.drop_zero, hl, hl] at this
          exact this
      all_goals simp [leafs, hu] at h
def cmpT (P : Program) (t : TypeId) : Option (List LK) :=
  match P.underlying t with
  | some (.struct _) => if P.eqGuardType P.depth t = true then none else match leafs P 9 t with
    | some ks => if ks.length = P.cellsOf t then some ks else none
    | none => none
  | _ => none
theorem cmp_eql {t : TypeId} {ks : List LK} (h : cmpT P t = some ks) (w : World) {xs ys : List Value} (hx : fits ks xs = true) (hy : fits ks ys = true) (ox oy : Operand) (neg : Bool) :
    (do eqGuard (if neg then .neq else .eql) t ox oy (.agg xs.toArray) (.agg ys.toArray); binOp (if neg then .neq else .eql) t (.agg xs.toArray) (.agg ys.toArray) : Sem Value).run P w = .ok (.bool (if neg then !eqVs xs ys else eqVs xs ys)) w := by
  unfold cmpT at h
  split at h
  · rename_i fs hu
    split at h
    · cases h
    · rename_i hg
      split at h
      · rename_i k0 hk
        split at h
        · rename_i hsz
          simp only [Option.some.injEq] at h
          subst h
          have hlx := fits_len _ _ hx
          have hly := fits_len _ _ hy
          have key : (Op.equalIn 10000 t (.agg xs.toArray) (.agg ys.toArray)).run P w = .ok (eqVs xs ys) w := by
            have hk' := hk
            simp only [leafs, hu] at hk'
            split at hk'
            · cases hk'
            · rename_i hst
              have hf : P.fieldsOf t = fs := by simp [Program.fieldsOf, hu]
              rw [run_equalIn_agg w 9999 t _ _ (by rw [hf]; exact hu) (by simpa using hst), hf]
              have := fields_ok (leaf_ok 8) w 9999 (by omega) xs.toArray ys.toArray fs.toList 0 k0 hk' (by simpa using hx) (by simpa using hy)
              simpa using this
          have hgd := fun op => run_eqGuard_agg (P := P) w op t ox oy xs.toArray ys.toArray (by simpa using hg)
          cases neg
          · simp only [Bool.false_eq_true, if_false, Sem.run_bind, hgd, Result.andThen_ok]
            rw [run_eql_struct, key]
            rfl
          · simp only [if_true, Sem.run_bind, hgd, Result.andThen_ok]
            rw [run_neq_struct, key]
            rfl
        · cases h
      · cases h
  · cases h
end
end E
end
section
namespace E
inductive AV : Type where
  | val (v : Value)
  | nil
  | lst (rows : List (List AV))
  | elm (row : List AV) (off : Nat)
  | ref (id off : Nat)
  | rel (id es i off : Nat)
  | own (id : Nat)
  | agg (cells : List AV)
  | tup (vs : List AV)
  | fn (f : FuncId) (first captured : List AV)
  | top
inductive Blk : Type where
  | box (cells : List AV)
  | row (e es : Nat) (rows : List (List AV))
def One (u : Value) : Prop := u.oneCell' = true
def no : Nat → Option Value := fun _ => none
mutual
def Rep (w : World) (G : Nat → Prop) (η : Nat → Option Value) : AV → Value → Prop
  | .val v, x => x = v
  | .nil, x => x = .slice none 0 0
  | .lst rows, x => ∃ a n c es, x = .slice a n c ∧ rows.length = n ∧ n ≤ c ∧ c ≤ 9223372036854775807 ∧ (∀ r ∈ rows, r.length = es) ∧ (rows = [] ∨ ∃ b o, a = some ⟨b, o, none⟩ ∧ G b ∧ RepRows w G rows b o)
  | .elm row off, x => ∃ b o, x = .pointer (some ⟨b, o + off, none⟩) ∧ G b ∧ RepRow w G row b o
  | .ref id off, x => ∃ b, η id = some (.pointer (some ⟨b, 0, none⟩)) ∧ x = .pointer (some ⟨b, off, none⟩)
  | .rel id es i off, x => ∃ b n c, η id = some (.slice (some ⟨b, 0, none⟩) n c) ∧ x = .pointer (some ⟨b, i * es + off, none⟩)
  | .own id, x => η id = some x ∧ ∃ a n c, x = .slice a n c
  | .agg cs, x => ∃ vs : List Value, x = .agg vs.toArray ∧ RepC w G η cs vs
  | .tup cs, x => ∃ vs : List Value, x = .tuple vs.toArray ∧ RepL w G η cs vs
  | .fn f fs cs, x => ∃ v1 v2 : List Value, x = .func (.func f) v1.toArray v2.toArray ∧ RepL w G η fs v1 ∧ RepL w G η cs v2
  | .top, _ => True
def RepL (w : World) (G : Nat → Prop) (η : Nat → Option Value) : List AV → List Value → Prop
  | [], [] => True
  | a :: az, v :: vs => Rep w G η a v ∧ RepL w G η az vs
  | _, _ => False
def RepC (w : World) (G : Nat → Prop) (η : Nat → Option Value) : List AV → List Value → Prop
  | [], [] => True
  | a :: az, v :: vs => (One v ∧ Rep w G η a v) ∧ RepC w G η az vs
  | _, _ => False
def RepRow (w : World) (G : Nat → Prop) : List AV → Nat → Nat → Prop
  | [], _, _ => True
  | a :: az, b, o => (∃ u, w.cell? ⟨b, o, none⟩ = some u ∧ One u ∧ Rep w G no a u) ∧ RepRow w G az b (o + 1)
def RepRows (w : World) (G : Nat → Prop) : List (List AV) → Nat → Nat → Prop
  | [], _, _ => True
  | r :: rs, b, o => RepRow w G r b o ∧ RepRows w G rs b (o + r.length)
end
section up
variable {w w' : World} {G G' : Nat → Prop}
def Up (w w' : World) (G G' : Nat → Prop) : Prop := ∀ b, G b → G' b ∧ w'.heap[b]? = w.heap[b]?
def Ge (η η' : Nat → Option Value) : Prop := ∀ id h, η id = some h → η' id = some h
mutual
theorem Rep.up (hG : Up w w' G G') {η η' : Nat → Option Value} (hη : Ge η η') : ∀ (a : AV) (x : Value), Rep w G η a x → Rep w' G' η' a x
  | .val v, x, h => h
  | .nil, x, h => h
  | .lst rows, x, h => by
    obtain ⟨a, n, c, es, h1, h2, h3, h4, h5, h6⟩ := h
    refine ⟨a, n, c, es, h1, h2, h3, h4, h5, ?_⟩
    rcases h6 with h6 | ⟨b, o, h6, h7, h8⟩
    · exact .inl h6
    · exact .inr ⟨b, o, h6, (hG b h7).1, RepRows.up hG rows b o h7 h8⟩
  | .elm row off, x, h => by
    obtain ⟨b, o, h1, h2, h3⟩ := h
    exact ⟨b, o, h1, (hG b h2).1, RepRow.up hG row b o h2 h3⟩
  | .ref id off, x, h => by
    obtain ⟨b, h1, h2⟩ := h
    exact ⟨b, hη _ _ h1, h2⟩
  | .rel id es i off, x, h => by
    obtain ⟨b, n, c, h1, h2⟩ := h
    exact ⟨b, n, c, hη _ _ h1, h2⟩
  | .own id, x, h => ⟨hη _ _ h.1, h.2⟩
  | .agg cs, x, h => by
    obtain ⟨vs, h1, h2⟩ := h
    exact ⟨vs, h1, RepC.up hG hη cs vs h2⟩
  | .tup cs, x, h => by
    obtain ⟨vs, h1, h2⟩ := h
    exact ⟨vs, h1, RepL.up hG hη cs vs h2⟩
  | .fn f fs cs, x, h => by
    obtain ⟨v1, v2, h1, h2, h3⟩ := h
    exact ⟨v1, v2, h1, RepL.up hG hη fs v1 h2, RepL.up hG hη cs v2 h3⟩
  | .top, _, _ => trivial
theorem RepL.up (hG : Up w w' G G') {η η' : Nat → Option Value} (hη : Ge η η') : ∀ (az : List AV) (vs : List Value), RepL w G η az vs → RepL w' G' η' az vs
  | [], [], _ => trivial
  | [], _ :: _, h => h
  | _ :: _, [], h => h
  | a :: az, v :: vs, h => ⟨Rep.up hG hη a v h.1, RepL.up hG hη az vs h.2⟩
theorem RepC.up (hG : Up w w' G G') {η η' : Nat → Option Value} (hη : Ge η η') : ∀ (az : List AV) (vs : List Value), RepC w G η az vs → RepC w' G' η' az vs
  | [], [], _ => trivial
  | [], _ :: _, h => h
  | _ :: _, [], h => h
  | a :: az, v :: vs, h => ⟨⟨h.1.1, Rep.up hG hη a v h.1.2⟩, RepC.up hG hη az vs h.2⟩
theorem RepRow.up (hG : Up w w' G G') : ∀ (az : List AV) (b o : Nat), G b → RepRow w G az b o → RepRow w' G' az b o
  | [], _, _, _, _ => trivial
  | a :: az, b, o, hb, h => by
    obtain ⟨⟨u, h1, h2, h3⟩, h4⟩ := h
    exact ⟨⟨u, (World.cell?_of_block (w := w) (hG b hb).2).trans h1, h2, Rep.up hG (fun _ _ h => h) a u h3⟩, RepRow.up hG az b (o + 1) hb h4⟩
theorem RepRows.up (hG : Up w w' G G') : ∀ (rs : List (List AV)) (b o : Nat), G b → RepRows w G rs b o → RepRows w' G' rs b o
  | [], _, _, _, _ => trivial
  | r :: rs, b, o, hb, h => ⟨RepRow.up hG r b o hb h.1, RepRows.up hG rs b (o + r.length) hb h.2⟩
end
end up
end E
end
section
namespace E
structure FI where
  off : Nat
  size : Nat
  agg : Bool
inductive TD where
  | str | bool | int (k : IntKind) | slice (e es bytes : Nat) (zero : List AV) | arr (n es : Nat) (agg : Bool) | struct (fs : List FI) | other
structure TI where
  d : TD
  size : Nat
  agg : Bool
  zero : List AV
def aggD : TypeDesc → Bool
  | .struct _ | .array _ _ => true
  | _ => false
def oneV : Value → Bool
  | .agg _ | .tuple _ => false
  | _ => true
def ofC : Value → AV
  | .slice none 0 0 => .nil
  | v => .val v
def ofV : Value → AV
  | .slice none 0 0 => .nil
  | .agg cs => if cs.toList.all oneV then .agg (cs.toList.map ofC) else .top
  | v => .val v
def fi (P : Program) (f : Field) : Option FI :=
  match P.info? f.type, P.underlying f.type with
  | some i, some u => some ⟨f.offset, i.size, aggD u⟩
  | _, _ => none
def td (P : Program) : TypeDesc → TD
  | .string => .str
  | .bool => .bool
  | .int k => .int k
  | .slice e => match P.info? e with
    | some i => match i.zero with
      | some z => if z.cells.toList.all oneV && z.cells.size == i.size && 0 < i.size then .slice e i.size i.bytes (z.cells.toList.map ofC) else .other
      | none => .other
    | none => .other
  | .array n e => match P.info? e, P.underlying e with
    | some i, some u => .arr n i.size (aggD u)
    | _, _ => .other
  | .struct fs => match fs.toList.mapM (fi P) with
    | some l => .struct l
    | none => .other
  | _ => .other
def ti (P : Program) (t : TypeId) : Option TI :=
  match P.info? t, P.underlying t with
  | some i, some u => match i.zero with
    | some z => if z.cells.toList.all oneV && z.cells.size == i.size then some ⟨td P u, i.size, aggD u, z.cells.toList.map ofC⟩ else none
    | none => none
  | _, _ => none
def look {α : Type} (k : Nat) : List (Nat × α) → Option α
  | [] => none
  | (j, a) :: l => if j == k then some a else look k l
def hset (k : Nat) (b : Blk) : List (Nat × Blk) → List (Nat × Blk)
  | [] => [(k, b)]
  | (j, c) :: l => if j == k then (k, b) :: l else (j, c) :: hset k b l
def hdel (k : Nat) : List (Nat × Blk) → List (Nat × Blk)
  | [] => []
  | (j, c) :: l => if j == k then hdel k l else (j, c) :: hdel k l
def rd : Nat → Nat → List AV → Option (List AV)
  | 0, 0, _ => some []
  | 0, n + 1, c :: cs => match rd 0 n cs with
    | some l => some (c :: l)
    | none => none
  | o + 1, n, _ :: cs => rd o n cs
  | _, _, [] => none
def wr : Nat → List AV → List AV → Option (List AV)
  | 0, [], cs => some cs
  | 0, x :: xs, _ :: cs => match wr 0 xs cs with
    | some l => some (x :: l)
    | none => none
  | o + 1, xs, c :: cs => match wr o xs cs with
    | some l => some (c :: l)
    | none => none
  | _, _, [] => none
def nth {α : Type} : Nat → List α → Option α
  | _, [] => none
  | 0, a :: _ => some a
  | n + 1, _ :: l => nth n l
def cell1 : AV → Bool
  | .val v => oneV v
  | .top | .agg _ | .tup _ => false
  | _ => true
def cellsOf : AV → Option (List AV)
  | .agg cs => some cs
  | a => if cell1 a then some [a] else none
def data : AV → Bool
  | .val v => oneV v
  | .nil | .lst _ | .elm _ _ => true
  | _ => false
def pack (agg : Bool) (cs : List AV) : Option AV :=
  if agg then some (.agg cs) else match cs with
    | [c] => some c
    | _ => none
structure St where
  n : Nat
  tmps : List (Nat × AV)
  heap : List (Nat × Blk)
  next : Nat
def St.ev (s : St) : Operand → AV
  | .tmp t => match look t s.tmps with
    | some a => a
    | none => .top
  | .const v => ofV v
  | .global g => .val (.pointer (some ⟨g, 0, none⟩))
  | .func f => .fn f [] []
def St.put (s : St) (d : Option Tmp) (v : AV) : St :=
  match d with
  | some d => if d < s.n then { s with tmps := (d, v) :: s.tmps } else s
  | none => s
inductive Upd where
  | none
  | set (id : Nat) (b : Blk)
  | move (old id : Nat) (b : Blk)
  | del (id : Nat)
def Upd.on (u : Upd) (h : List (Nat × Blk)) : List (Nat × Blk) :=
  match u with
  | .none => h
  | .set id b => hset id b h
  | .move old id b => hset id b (hdel old h)
  | .del id => hdel id h
def opnds : Op → List Operand
  | .move x | .assign x | .box _ x | .load _ x | .nilCheck x | .unOp _ _ x | .convert _ _ x | .fieldAddr _ x _ | .field _ x _ | .extract x _ => [x]
  | .pick c a b => [c, a, b]
  | .build _ ps | .buildSlice _ _ ps => ps.toList.map (·.2)
  | .store _ a v | .binOp _ _ a v _ | .makeSlice _ a v | .indexAddr _ a v | .index _ a v => [a, v]
  | .makeFunc _ f c => f.toList ++ c.toList
  | .slice _ x l h m => x :: (l.toList ++ h.toList ++ m.toList)
  | .call c => match c.callee with
    | .value f => f :: c.args.toList
    | .builtin _ => c.args.toList
    | .invoke r _ => r :: c.args.toList
  | _ => []
abbrev Hp := List (Nat × Blk)
abbrev Rs := Option (AV × Upd)
def pure1 (a : AV) : Rs := some (a, .none)
def vI (k : IntKind) (n : Int) : Rs := pure1 (.val (.int k n))
def vB (b : Bool) : Rs := pure1 (.val (.bool b))
def vS (s : ByteArray) : Rs := pure1 (.val (.string s))
def wrap (k : IntKind) (n : Int) : Int := k.wrap n
def bitsOf (k : IntKind) (n : Int) : BitVec k.bits := BitVec.ofInt k.bits n
def maxS : Nat := 9223372036854775807
def maxR : Nat := 4294967296
def nilOf : AV → Option Bool
  | .nil => some true
  | .lst (_ :: _) => some false
  | .val (.slice a _ _) => some a.isNone
  | _ => none
def aBin (t : Option TI) (op : BinOp) : AV → AV → Rs
  | .val (.int k a), .val (.int k' b) =>
    if k = k' ∨ op = .shl ∨ op = .shr then
      match op with
      | .add => vI k (k.wrap (a + b))
      | .sub => vI k (k.wrap (a - b))
      | .mul => vI k (k.wrap (a * b))
      | .quo => if b = 0 then none else vI k (k.wrap (a.tdiv b))
      | .rem => if b = 0 then none else vI k (a.tmod b)
      | .and => vI k (k.wrap (bitsOf k a &&& bitsOf k b).toNat)
      | .or => vI k (k.wrap (bitsOf k a ||| bitsOf k b).toNat)
      | .xor => vI k (k.wrap (bitsOf k a ^^^ bitsOf k b).toNat)
      | .andNot => vI k (k.wrap (bitsOf k a &&& ~~~ bitsOf k b).toNat)
      | .shl => if b < 0 then none else vI k (k.wrap (a * 2 ^ min b.toNat k.bits))
      | .shr => if b < 0 then none else vI k (a.fdiv (2 ^ min b.toNat k.bits))
      | .eql => vB (a == b)
      | .neq => vB (a != b)
      | .lss => vB (decide (a < b))
      | .leq => vB (decide (a ≤ b))
      | .gtr => vB (decide (a > b))
      | .geq => vB (decide (a ≥ b))
    else none
  | .val (.string a), .val (.string b) =>
    match op with
    | .add => if a.size + b.size ≤ maxS then vS (a ++ b) else none
    | .eql => vB (decide (a = b))
    | .neq => vB (!decide (a = b))
    | _ => none
  | .val (.bool a), .val (.bool b) => match t with
    | some ⟨.bool, _, _, _⟩ => match op with
      | .eql => vB (a == b)
      | .neq => vB (a != b)
      | _ => none
    | _ => none
  | x, .nil => match t, nilOf x with
    | some ⟨.slice _ _ _ _, _, _, _⟩, some b => match op with
      | .eql => vB b
      | .neq => vB (!b)
      | _ => none
    | _, _ => none
  | _, _ => none
def LK.fitA : LK → AV → Bool
  | .b, .val (.bool _) => true
  | .i k, .val (.int k' _) => k == k'
  | .s, .val (.string _) => true
  | _, _ => false
def fitsA : List LK → List AV → Bool
  | [], [] => true
  | k :: ks, a :: vs => k.fitA a && fitsA ks vs
  | _, _ => false
def eqA1 : AV → AV → Bool
  | .val (.bool a), .val (.bool b) => a == b
  | .val (.int _ a), .val (.int _ b) => a == b
  | .val (.string a), .val (.string b) => decide (a = b)
  | _, _ => false
def eqA : List AV → List AV → Bool
  | x :: xs, y :: ys => eqA1 x y && eqA xs ys
  | _, _ => true
def aEqA (l : Option (List LK)) (op : BinOp) (xs ys : List AV) : Rs :=
  match l with
  | some ks => if fitsA ks xs && fitsA ks ys then match op with
    | .eql => vB (eqA xs ys)
    | .neq => vB (!eqA xs ys)
    | _ => none
    else none
  | none => none
def aBinT (l : Option (List LK)) (t : Option TI) (op : BinOp) (x y : AV) : Rs :=
  match x, y with
  | .agg xs, .agg ys => aEqA l op xs ys
  | x, y => aBin t op x y
def aUn (op : UnOp) : AV → Rs
  | .val (.int k a) => match op with
    | .neg => vI k (k.wrap (0 - a))
    | _ => none
  | .val (.bool b) => match op with
    | .not => vB (!b)
    | _ => none
  | _ => none
def aConv (a b : Option TI) : AV → Rs
  | .val (.int k n) => match a, b with
    | some ⟨.int _, _, _, _⟩, some ⟨.int k', _, _, _⟩ => vI k' (k'.wrap n)
    | _, _ => none
  | .val (.string s) => match a, b with
    | some ⟨.str, _, _, _⟩, some ⟨.str, _, _, _⟩ => vS s
    | _, _ => none
  | _ => none
def idx (rows : List (List AV)) (i : Int) : Option (List AV) := if 0 ≤ i then rows[i.toNat]? else none
def atStr (s : ByteArray) (i : Int) : Option UInt8 := if 0 ≤ i then s[i.toNat]? else none
def aLoad (hp : Hp) (t : Option TI) : AV → Rs
  | .ref id off => match t, look id hp with
    | some t, some (.box cs) => match rd off t.size cs with
      | some l => match pack t.agg l with
        | some v => pure1 v
        | none => none
      | none => none
    | _, _ => none
  | .rel id es i off => match t, look id hp with
    | some t, some (.row _ es' rows) => if es = es' then match rows[i]? with
      | some r => match rd off t.size r with
        | some l => match pack t.agg l with
          | some v => pure1 v
          | none => none
        | none => none
      | none => none
      else none
    | _, _ => none
  | .elm r off => match t with
    | some t => match rd off t.size r with
      | some l => match pack t.agg l with
        | some v => pure1 v
        | none => none
      | none => none
    | none => none
  | _ => none
def aStore (hp : Hp) (t : Option TI) (a x : AV) : Rs :=
  match t, cellsOf x with
  | some t, some cs =>
    if cs.length = t.size then
      match a with
      | .ref id off => match look id hp with
        | some (.box l) => match wr off cs l with
          | some l' => some (.top, .set id (.box l'))
          | none => none
        | _ => none
      | .rel id es i off => match look id hp with
        | some (.row e es' rows) => if es = es' ∧ cs.all data then match rows[i]? with
          | some r => match wr off cs r with
            | some r' => some (.top, .set id (.row e es' (rows.set i r')))
            | none => none
          | none => none
          else none
        | _ => none
      | _ => none
    else none
  | _, _ => none
def fillA (place : Nat → Option (Nat × Nat)) : List AV → List (Nat × AV) → Option (List AV)
  | cells, [] => some cells
  | cells, (i, a) :: rest => match place i, cellsOf a with
    | some (off, size), some cs => if cs.length = size then match wr off cs cells with
      | some l => fillA place l rest
      | none => none
      else none
    | _, _ => none
def zipP : List (Nat × Operand) → List AV → List (Nat × AV)
  | (i, _) :: ps, a :: az => (i, a) :: zipP ps az
  | _, _ => []
def placeOf : TD → Nat → Option (Nat × Nat)
  | .struct fs, i => match nth i fs with
    | some f => some (f.off, f.size)
    | none => none
  | .arr n es _, i => some (i * es, es)
  | _, _ => none
def isSA : TD → Bool
  | .struct _ | .arr _ _ _ => true
  | _ => false
def aBuild (t : Option TI) (ps : List (Nat × AV)) : Rs :=
  match t with
  | some t => if isSA t.d then match fillA (placeOf t.d) t.zero ps with
    | some l => pure1 (.agg l)
    | none => none
    else none
  | none => none
def reps (z : List AV) : Nat → List AV
  | 0 => []
  | n + 1 => z ++ reps z n
def chunk (es : Nat) : Nat → List AV → Option (List (List AV))
  | 0, _ => some []
  | n + 1, l => match rd 0 es l with
    | some r => match chunk es n (l.drop es) with
      | some rs => some (r :: rs)
      | none => none
    | none => none
def aBuildSlice (k : Nat) (t : Option TI) (n : Nat) (ps : List (Nat × AV)) : Rs :=
  match t with
  | some ⟨.slice e es _ z, _, _, _⟩ => if n ≤ 4096 ∧ es ≤ 4096 then match fillA (fun i => some (i * es, es)) (reps z n) ps with
    | some l => if l.all data then match chunk es n l with
      | some rows => some (.own k, .set k (.row e es rows))
      | none => none
      else none
    | none => none
    else none
  | _ => none
def aFieldAddr (t : Option TI) (f : Nat) (x : AV) : Rs :=
  match t with
  | some ⟨.struct fs, _, _, _⟩ => match nth f fs with
    | some f => if f.size = 0 then none else match x with
      | .ref id off => pure1 (.ref id (off + f.off))
      | .rel id es i off => pure1 (.rel id es i (off + f.off))
      | .elm r off => pure1 (.elm r (off + f.off))
      | _ => none
    | none => none
  | _ => none
def aField (t : Option TI) (f : Nat) (x : AV) : Rs :=
  match t, x with
  | some ⟨.struct fs, _, _, _⟩, .agg cs => match nth f fs with
    | some f => match rd f.off f.size cs with
      | some l => match pack f.agg l with
        | some v => pure1 v
        | none => none
      | none => none
    | none => none
  | _, _ => none
def aIndexAddr (hp : Hp) (t : Option TI) (x i : AV) : Rs :=
  match t, i with
  | some ⟨.slice e es _ _, _, _, _⟩, .val (.int _ i) => match x with
    | .lst rows => match idx rows i with
      | some r => if r.length = es then pure1 (.elm r 0) else none
      | none => none
    | .own id => match look id hp with
      | some (.row _ es' rows) => if es' = es ∧ 0 ≤ i ∧ i < rows.length then pure1 (.rel id es i.toNat 0) else none
      | _ => none
    | _ => none
  | some ⟨.arr n es _, _, _, _⟩, .val (.int _ i) => match x with
    | .ref id off => if 0 ≤ i ∧ i < n then pure1 (.ref id (off + i.toNat * es)) else none
    | _ => none
  | _, _ => none
def aIndex (t : Option TI) (x i : AV) : Rs :=
  match t, x, i with
  | some ⟨.arr n es ag, _, _, _⟩, .agg cs, .val (.int _ i) =>
    if 0 ≤ i ∧ i < n then match rd (i.toNat * es) es cs with
      | some l => match pack ag l with
        | some v => pure1 v
        | none => none
      | none => none
    else none
  | some ⟨.str, _, _, _⟩, .val (.string s), .val (.int _ i) => match atStr s i with
    | some b => vI .u8 b.toNat
    | none => none
  | _, _, _ => none
def num : AV → Option Int
  | .val (.int _ n) => some n
  | _ => none
def bnd (b : Option Operand) (d : Int) (vs : List AV) : Option (Int × List AV) :=
  match b, vs with
  | none, vs => some (d, vs)
  | some _, v :: vs => match num v with
    | some n => some (n, vs)
    | none => none
  | some _, [] => none
def aSlice (hp : Hp) (t : Option TI) (lo hi mx : Option Operand) (vs : List AV) : Rs :=
  match t, vs with
  | some ⟨.str, _, _, _⟩, .val (.string s) :: vs => match mx, bnd lo 0 vs with
    | none, some (l, vs) => match bnd hi s.size vs with
      | some (h, _) => if 0 ≤ l ∧ l ≤ h ∧ h ≤ s.size then vS (s.extract l.toNat h.toNat) else none
      | none => none
    | _, _ => none
  | some ⟨.slice _ es _ _, _, _, _⟩, .lst rows :: vs => match mx, bnd lo 0 vs with
    | none, some (l, vs) => match bnd hi rows.length vs with
      | some (h, _) => if 0 ≤ l ∧ l ≤ h ∧ h ≤ rows.length ∧ (l = 0 ∨ (rows.all fun r => r.length == es) = true) then pure1 (.lst ((rows.take h.toNat).drop l.toNat)) else none
      | none => none
    | _, _ => none
  | _, _ => none
def aLen (hp : Hp) (t : Option TI) : AV → Rs
  | .val (.string s) => match t with
    | some ⟨.str, _, _, _⟩ => vI .i64 s.size
    | _ => none
  | .nil => match t with
    | some ⟨.slice _ _ _ _, _, _, _⟩ => vI .i64 0
    | _ => none
  | .lst rows => match t with
    | some ⟨.slice _ _ _ _, _, _, _⟩ => vI .i64 rows.length
    | _ => none
  | .own id => match t, look id hp with
    | some ⟨.slice _ _ _ _, _, _, _⟩, some (.row _ _ rows) => vI .i64 rows.length
    | _, _ => none
  | .agg _ => match t with
    | some ⟨.arr n _ _, _, _, _⟩ => vI .i64 n
    | _ => none
  | _ => none
def rowsOf (hp : Hp) : AV → Option (List (List AV))
  | .nil => some []
  | .lst rows => some rows
  | .own id => match look id hp with
    | some (.row _ _ rows) => some rows
    | _ => none
  | .val (.slice _ 0 _) => some []
  | _ => none
def bytesOf : List (List AV) → Option (List Int)
  | [] => some []
  | [.val (.int .u8 n)] :: rs => match bytesOf rs with
    | some l => some (n :: l)
    | none => none
  | _ => none
def strI (xs : List Int) : ByteArray := ⟨(xs.map fun n => UInt8.ofNat n.toNat).toArray⟩
def elemT (a : Option TI) : TypeId := match a with
  | some ⟨.slice e _ _ _, _, _, _⟩ => e
  | _ => 0
def aConvB (hp : Hp) (e a b : Option TI) (x : AV) : Rs :=
  match e, a, b with
  | some ⟨.int .u8, _, _, _⟩, some ⟨.slice _ es _ _, _, _, _⟩, some ⟨.str, _, _, _⟩ => match rowsOf hp x with
    | some rows => match bytesOf rows with
      | some l => if es = 1 then vS (strI l) else none
      | none => none
    | none => none
  | _, _, _ => none
def aConvX (hp : Hp) (e a b : Option TI) : AV → Rs
  | .own id => aConvB hp e a b (.own id)
  | .lst rows => aConvB hp e a b (.lst rows)
  | x => aConv a b x
def aAppend (hp : Hp) (k : Nat) (t : Option TI) (x y : AV) : Rs :=
  match t, rowsOf hp y with
  | some ⟨.slice e es bytes _, _, _, _⟩, some new =>
    if bytes ≤ 4096 ∧ new.all (fun r => r.length == es && r.all data) then match x with
      | .nil => if new.length ≤ maxR then some (.own k, .set k (.row e es new)) else none
      | .own id => match look id hp with
        | some (.row e' es' rows) => if e' = e ∧ es' = es ∧ rows.length + new.length ≤ maxR then some (.own k, .move id k (.row e es (rows ++ new))) else none
        | _ => none
      | _ => none
    else none
  | _, _ => none
def mm (b : Builtin) (x y : AV) : Rs :=
  match x, y with
  | .val (.int k x), .val (.int k' y) => if k = k' then match b with
    | .max => vI k (if y > x then y else x)
    | .min => vI k (if y < x then y else x)
    | _ => none
    else none
  | _, _ => none
def aBuiltin (P : Program) (hp : Hp) (k : Nat) (b : Builtin) (ts : List TypeId) (vs : List AV) : Rs :=
  match b, ts, vs with
  | .len, [t], [x] => aLen hp (ti P t) x
  | .append, [t, t'], [x, y] => if t = t' then aAppend hp k (ti P t) x y else none
  | .max, _, [x, y] => mm .max x y
  | .min, _, [x, y] => mm .min x y
  | _, _, _ => none
def aPick : AV → AV → AV → Rs
  | .val (.bool true), a, _ => pure1 a
  | .val (.bool false), _, b => pure1 b
  | _, _, _ => none
def astep (P : Program) (op : Op) (k : Nat) (vs : List AV) (hp : Hp) : Rs :=
  match op, vs with
  | .move _, [x] => pure1 x
  | .assign _, [x] => pure1 x
  | .pick _ _ _, [c, a, b] => aPick c a b
  | .alloc t, [] => match ti P t with
    | some t => some (.ref k 0, .set k (.box t.zero))
    | none => none
  | .box _ _, [x] => match cellsOf x with
    | some cs => some (.ref k 0, .set k (.box cs))
    | none => none
  | .build t ps, vs => aBuild (ti P t) (zipP ps.toList vs)
  | .buildSlice t n ps, vs => aBuildSlice k (ti P t) n (zipP ps.toList vs)
  | .load t _, [a] => aLoad hp (ti P t) a
  | .store t _ _, [a, x] => aStore hp (ti P t) a x
  | .nilCheck _, [a] => match a with
    | .ref .. | .rel .. | .elm .. | .fn .. => pure1 a
    | _ => none
  | .binOp op t _ _ _, [x, y] => aBinT (cmpT P t) (ti P t) op x y
  | .unOp op _ _, [x] => aUn op x
  | .convert s d _, [x] => aConvX hp (ti P (elemT (ti P s))) (ti P s) (ti P d) x
  | .makeFunc (.func f) a c, vs => pure1 (.fn f (vs.take a.size) (vs.drop a.size))
  | .slice t _ lo hi mx, vs => aSlice hp (ti P t) lo hi mx vs
  | .fieldAddr t _ f, [x] => aFieldAddr (ti P t) f x
  | .field t _ f, [x] => aField (ti P t) f x
  | .indexAddr t _ _, [x, i] => aIndexAddr hp (ti P t) x i
  | .index t _ _, [x, i] => aIndex (ti P t) x i
  | .extract _ i, [.tup vs] => match nth i vs with
    | some v => pure1 v
    | none => none
  | .call c, vs => match c.callee with
    | .builtin b => aBuiltin P hp k b c.argTypes.toList vs
    | _ => none
  | _, _ => none
end E
end
section
namespace E
def hb : Value → Option Nat
  | .pointer (some a) => some a.block
  | .slice (some a) _ _ => some a.block
  | _ => none
def RepB (w : World) (G : Nat → Prop) (η : Nat → Option Value) : Blk → Value → Prop
  | .box cs, v => ∃ b T, ∃ vs : List Value, v = .pointer (some ⟨b, 0, none⟩) ∧ w.heap[b]? = some (.cells vs.toArray T (0, 0)) ∧ RepC w G η cs vs
  | .row e es rows, v => ∃ xs, w.ownsRow 0 e es v rows.length xs ∧ RepC w G no rows.flatten xs ∧ (∀ r ∈ rows, r.length = es) ∧ 0 < es
structure Mem (w : World) (B : Nat) (G : Nat → Prop) (η : Nat → Option Value) (h : List (Nat × Blk)) : Prop where
  rep : ∀ id b, look id h = some b → ∃ v, η id = some v ∧ RepB w G η b v ∧ ∀ g, hb v = some g → B ≤ g ∧ ¬ G g
  inj : ∀ id id' b b' v v' g, look id h = some b → look id' h = some b' → η id = some v → η id' = some v' → hb v = some g → hb v' = some g → id = id'
def ACalls (P : Program) (Ev : World → Prop) (f : FuncId) (args : List AV) (r : AV) (nb : List (Nat × Blk)) : Prop :=
  (∃ fn, P.funcs[f]? = some fn ∧ fn.body.isNone = false ∧ (fn.name == "runtime.NumGoroutine") = false) ∧
  ∀ (w : World) (xs : Array Value) (G : Nat → Prop), Ev w → (∀ b, G b → b < w.heap.size) → RepL w G no args xs.toList →
    Calls P f xs w fun e w' => ∃ v, e = .returned v ∧ Below w.heap.size w w' ∧ ∃ G' η, (∀ b, G' b → (G b ∨ w.heap.size ≤ b) ∧ b < w'.heap.size) ∧ Rep w' G' η r v ∧ Mem w' w.heap.size G' η nb
def AGlob (P : Program) (Ev : World → Prop) (t : TypeId) (a : Value) (r : AV) : Prop :=
  ∀ w, Ev w → ∃ v, (Instr.loadAt t a).run P w = .ok v w ∧ ∀ G η, Rep w G η r v
mutual
def soft (hp : Hp) : AV → AV
  | .nil => .lst []
  | .own id => match look id hp with
    | some (.row _ _ rows) => .lst rows
    | _ => .top
  | .ref _ _ | .rel _ _ _ _ => .top
  | .agg cs => .agg (softL hp cs)
  | .tup cs => .tup (softL hp cs)
  | .fn f a b => .fn f (softL hp a) (softL hp b)
  | a => a
def softL (hp : Hp) : List AV → List AV
  | [] => []
  | a :: az => soft hp a :: softL hp az
end
mutual
def owns : AV → Bool
  | .own _ => true
  | .agg cs | .tup cs => ownsL cs
  | .fn _ a b => ownsL a || ownsL b
  | _ => false
def ownsL : List AV → Bool
  | [] => false
  | a :: az => owns a || ownsL az
end
mutual
def flat : AV → Bool
  | .lst rows => rows.isEmpty
  | .elm _ _ => false
  | .agg cs | .tup cs => flatL cs
  | .fn _ a b => flatL a && flatL b
  | _ => true
def flatL : List AV → Bool
  | [] => true
  | a :: az => flat a && flatL az
end
mutual
def ren (f : Nat → Option Nat) : AV → AV
  | .own id => match f id with
    | some j => .own j
    | none => .top
  | .ref id o => match f id with
    | some j => .ref j o
    | none => .top
  | .rel id es i o => match f id with
    | some j => .rel j es i o
    | none => .top
  | .agg cs => .agg (renL f cs)
  | .tup cs => .tup (renL f cs)
  | .fn g a b => .fn g (renL f a) (renL f b)
  | a => a
def renL (f : Nat → Option Nat) : List AV → List AV
  | [] => []
  | a :: az => ren f a :: renL f az
end
def renB (f : Nat → Option Nat) : Blk → Blk
  | .box cs => .box (renL f cs)
  | b => b
def flatB : Blk → Bool
  | .box cs => flatL cs
  | .row _ _ rows => rows.all flatL
def sh (k : Nat) : Nat → Option Nat := fun j => if j < 4 then some (k + j) else none
def adopt (k : Nat) : List (Nat × Blk) → List (Nat × Blk)
  | [] => []
  | (j, b) :: nb => (k + j, renB (sh k) b) :: adopt k nb
def br (t : Bool) (A B : Prop) : Prop := if t then A else B
def callK (P : Program) (Ev : World → Prop) (vs : List AV) (own : Bool) (k : Nat) (K : AV → List (Nat × Blk) → Prop) : Prop :=
  match vs with
  | .fn f fs cs :: az => ∃ r nb, ACalls P Ev f (fs ++ (az ++ cs)) r nb ∧ (own = false ∨ flat r = true ∧ (nb.all fun x => flatB x.2) = true) ∧ (nb.all fun x => x.1 < 4) = true ∧ K (ren (sh k) r) (adopt k nb)
  | _ => False
def globK (P : Program) (Ev : World → Prop) (t : TypeId) (a : Value) (K : AV → Prop) : Prop := ∃ r, AGlob P Ev t a r ∧ K r
def stepK (r : Rs) (K : AV → Upd → Prop) : Prop :=
  match r with
  | some (v, u) => K v u
  | none => False
def St.upd (s : St) (u : Upd) : St := { s with heap := u.on s.heap }
def St.more (s : St) (nb : List (Nat × Blk)) : St := { s with heap := nb ++ s.heap }
def opK (P : Program) (Ev : World → Prop) (op : Op) (dst : Option Tmp) (k : Nat) (s : St) (K : St → Prop) : Prop :=
  match op with
  | .call ⟨.value f, az, _⟩ => callK P Ev (softL s.heap (s.ev f :: az.toList.map s.ev)) (ownsL (s.ev f :: az.toList.map s.ev)) k fun r nb => K ((s.put dst r).more nb)
  | .load t (.global g) => globK P Ev t (.pointer (some ⟨g, 0, none⟩)) fun r => K (s.put dst r)
  | op => stepK (astep P op k ((opnds op).map s.ev) s.heap) fun v u => K ((s.put dst v).upd u)
def dstOf (ops : List Oper) (j : Nat) : Option Operand := match nth j ops with
  | some o => match o.dst with
    | some d => some (.tmp d)
    | none => none
  | none => none
abbrev skipA : AV := .val (.tuple #[])
def gOf : AV → Option (Option Bool)
  | .val (.bool b) => some (some b)
  | .val (.tuple ⟨[]⟩) => some none
  | _ => none
def gdK (x : Option Operand) (want : Bool) (s : St) (A B : Prop) : Prop :=
  match x with
  | some x => match gOf (s.ev x) with
    | some (some b) => br (b == want) A B
    | some none => B
    | none => False
  | none => False
def run (P : Program) (Ev : World → Prop) (ops : List Oper) : List Oper → Nat → Option (List St) → St → (Option (List St) → St → Prop) → Prop
  | [], k, lg, s, K => K lg { s with next := k }
  | o :: l, k, lg, s, K => match o.guard with
    | none => opK P Ev o.op o.dst k s fun s' => run P Ev ops l (k + 4) (lg.map (s :: ·)) s' K
    | some (j, want) => gdK (dstOf ops j) want s (opK P Ev o.op o.dst k s fun s' => run P Ev ops l (k + 4) (lg.map (s :: ·)) s' K) (run P Ev ops l (k + 4) (lg.map (s :: ·)) (s.put o.dst skipA) K)
inductive Ex where
  | normal
  | exit (id : Nat)
  | ret
def thenK (F : St → Prop) (Q : Ex → St → Prop) : Ex → St → Prop
  | .normal, s => F s
  | e, s => Q e s
def blockK (id : Nat) (Q : Ex → St → Prop) : Ex → St → Prop
  | .exit j, s => if j == id then Q .normal s else Q (.exit j) s
  | e, s => Q e s
mutual
def idsOf : AV → List Nat
  | .ref id _ | .rel id _ _ _ | .own id => [id]
  | .agg cs | .tup cs => idsL cs
  | .fn _ a b => idsL a ++ idsL b
  | _ => []
def idsL : List AV → List Nat
  | [] => []
  | a :: az => idsOf a ++ idsL az
end
def Inv (S : Nat → Prop) (w0 : World) (s : St) (a : Act) (w : World) : Prop :=
  Below w0.heap.size w0 w ∧ a.tmps.size = s.n ∧ a.defers = [] ∧ ∃ (G : Nat → Prop) (η : Nat → Option Value),
    (∀ b, G b → (S b ∨ w0.heap.size ≤ b) ∧ b < w.heap.size) ∧ (∀ t x, look t s.tmps = some x → Rep w G η x (a.tmps.getD t undef)) ∧
    Mem w w0.heap.size G η s.heap ∧ ∀ id, s.next ≤ id → η id = none
def Le (s s' : St) : Prop := ∀ S w0 a w, Inv S w0 s a w → Inv S w0 s' a w
def bindE (o : Oper) : List Nat := (o.after.toList.filter (Region.binds .any)).map (·.on)
def ancGo : List (List Nat) → List Oper → List (List Nat)
  | acc, [] => acc
  | acc, o :: l => ancGo (acc ++ [(bindE o).flatMap fun j => j :: acc.getD j []]) l
def idsW (op : Op) (vs : List AV) : List Nat :=
  match op, vs with
  | .store _ _ _, a :: _ => idsOf a
  | .call ⟨.builtin .append, _, _⟩, x :: _ => idsOf x
  | _, _ => []
def disj (a b : List Nat) : Bool := a.all fun x => !b.contains x
def rdOf (o : Oper) (s : St) : List Nat := idsL ((opnds o.op).map s.ev)
def wrOf (o : Oper) (s : St) (j : Nat) : List Nat := [s.next + 4 * j, s.next + 4 * j + 1, s.next + 4 * j + 2, s.next + 4 * j + 3] ++ idsW o.op ((opnds o.op).map s.ev)
def okPair (ops : Array Oper) (oi oj : Oper) (si sj : St) (i j : Nat) : Bool := oj.apart ops oi && disj (wrOf oj sj j) (rdOf oi si ++ wrOf oi si i) && disj (wrOf oi si i) (rdOf oj sj)
def okR (ops : Array Oper) (log : List St) : Bool :=
  log.length == ops.size && (List.range ops.size).all fun i => match nth i ops.toList, nth i log with
    | some oi, some si => (bindE oi).all (fun j => decide (j < i)) && (List.range i).all fun j => (((ancGo [] ops.toList).getD i []).contains j) || (match nth j ops.toList, nth j log with
      | some oj, some sj => okPair ops oi oj si sj i j
      | _, _ => false)
    | _, _ => false
def okL (ops : Array Oper) : Option (List St) → Prop
  | none => True
  | some lg => okR ops lg.reverse = true
def lg0 (d : Bool) : Option (List St) := if d then some [] else none
def brK (c : AV) (A B : Prop) : Prop :=
  match c with
  | .val (.bool t) => br t A B
  | _ => False
def AW (P : Program) (Ev : World → Prop) : Code → (Ex → St → Prop) → St → Prop
  | .skip, Q, s => Q .normal s
  | .label _, Q, s => Q .normal s
  | .region _ ops d, Q, s => run P Ev ops.toList ops.toList s.next (lg0 d) s fun lg s' => okL ops lg ∧ Q .normal s'
  | .seq a b, Q, s => AW P Ev a (thenK (AW P Ev b Q) Q) s
  | .cond c a b, Q, s => brK (s.ev c) (AW P Ev a Q s) (AW P Ev b Q s)
  | .block id c, Q, s => AW P Ev c (blockK id Q) s
  | .exit id, Q, s => Q (.exit id) s
  | .ret, Q, s => Q .ret s
  | .scope c, Q, s => AW P Ev c Q s
  | .loop c, Q, s => ∃ (ι : Type) (T : ι → St) (μ : ι → Nat) (i : ι), Le s (T i) ∧ ∀ i, AW P Ev c (thenK (fun s' => ∃ j, Le s' (T j) ∧ μ j < μ i) Q) (T i)
  | _, _, _ => False
inductive Fr where
  | code (c : Code)
  | block (id : Nat)
def cont (P : Program) (Ev : World → Prop) (F : Ex → St → Prop) : List Fr → Ex → St → Prop
  | [] => F
  | .code c :: st => thenK (AW P Ev c (cont P Ev F st)) (cont P Ev F st)
  | .block id :: st => blockK id (cont P Ev F st)
section
variable (P : Program) (Ev : World → Prop) (F : Ex → St → Prop) (st : List Fr)
def G (c : Code) (s : St) : Prop := AW P Ev c (cont P Ev F st) s
def Gx (e : Ex) (s : St) : Prop := cont P Ev F st e s
def Gr (ops : List Oper) (d : Option (List St)) (l : List Oper) (k : Nat) (s : St) : Prop := run P Ev ops l k d s fun lg s' => okL ops.toArray lg ∧ cont P Ev F st .normal s'
def Go (ops : List Oper) (d : Option (List St)) (dst : Option Tmp) (l : List Oper) (op : Op) (k : Nat) (s : St) : Prop := opK P Ev op dst k s fun s' => Gr P Ev F st ops d l (k + 4) s'
def Gs (ops : List Oper) (d : Option (List St)) (dst : Option Tmp) (l : List Oper) (k : Nat) (s : St) (r : Rs) : Prop := stepK r fun v u => Gr P Ev F st ops d l (k + 4) ((s.put dst v).upd u)
def Gc (ops : List Oper) (d : Option (List St)) (dst : Option Tmp) (l : List Oper) (k : Nat) (s : St) (vs : List AV) (own : Bool) : Prop := callK P Ev vs own k fun r nb => Gr P Ev F st ops d l (k + 4) ((s.put dst r).more nb)
def Gv (ops : List Oper) (d : Option (List St)) (dst : Option Tmp) (l : List Oper) (k : Nat) (s : St) (t : TypeId) (g : Nat) : Prop := globK P Ev t (.pointer (some ⟨g, 0, none⟩)) fun r => Gr P Ev F st ops d l (k + 4) (s.put dst r)
def Gg (ops : List Oper) (d : Option (List St)) (dst : Option Tmp) (op : Op) (l : List Oper) (k : Nat) (s : St) (b : Bool) : Prop := br b (Go P Ev F st ops d dst l op k s) (Gr P Ev F st ops d l (k + 4) (s.put dst skipA))
def dstV (ops : List Oper) (j : Nat) (s : St) : AV := match dstOf ops j with
  | some x => s.ev x
  | none => .top
def Gq (ops : List Oper) (d : Option (List St)) (dst : Option Tmp) (op : Op) (l : List Oper) (k : Nat) (s : St) (c : AV) (want : Bool) : Prop := match gOf c with
  | some (some b) => Gg P Ev F st ops d dst op l k s (b == want)
  | some none => Gg P Ev F st ops d dst op l k s false
  | none => False
def Gb (a b : Code) (s : St) (c : AV) : Prop := brK c (G P Ev F st a s) (G P Ev F st b s)
def Gl (c : Code) (s : St) : Prop := G P Ev F st (.loop c) s
def Gd (ops : List Oper) (lg : List St) (s : St) : Prop := okR ops.toArray lg.reverse = true ∧ Gx P Ev F st .normal s
end
section
variable {P : Program} {Ev : World → Prop} {F : Ex → St → Prop} {st : List Fr}
theorem cont_ret : ∀ (st : List Fr) (s : St), cont P Ev F st .ret s = F .ret s
  | [], s => rfl
  | .code c :: st, s => cont_ret st s
  | .block id :: st, s => cont_ret st s
theorem Go_pick {ops d dst l k s c x y} : Go P Ev F st ops d dst l (.pick c x y) k s = Gs P Ev F st ops d dst l k s (aPick (s.ev c) (s.ev x) (s.ev y)) := propext Iff.rfl
theorem aPick_t {a b : AV} : aPick (.val (.bool true)) a b = pure1 a := by simp [aPick]
theorem aPick_f {a b : AV} : aPick (.val (.bool false)) a b = pure1 b := by simp [aPick]
theorem Gs_some {ops d dst l k s v} : Gs P Ev F st ops d dst l k s (some (v, .none)) = Gr P Ev F st ops d l (k + 4) (s.put dst v) := propext Iff.rfl
theorem Gs_set {ops d dst l k s v id b} : Gs P Ev F st ops d dst l k s (some (v, .set id b)) = Gr P Ev F st ops d l (k + 4) ((s.put dst v).upd (.set id b)) := propext Iff.rfl
theorem Gs_move {ops d dst l k s v id j b} : Gs P Ev F st ops d dst l k s (some (v, .move j id b)) = Gr P Ev F st ops d l (k + 4) ((s.put dst v).upd (.move j id b)) := propext Iff.rfl
theorem Gx_same {id : Nat} {s : St} : Gx P Ev F (.block id :: st) (.exit id) s = Gx P Ev F st .normal s := by simp [Gx, cont, blockK]
theorem Gx_other {id j : Nat} {s : St} (h : (j == id) = false) : Gx P Ev F (.block id :: st) (.exit j) s = Gx P Ev F st (.exit j) s := by simp [Gx, cont, blockK, h]
theorem flow :
    (∀ s, G P Ev F st .skip s = Gx P Ev F st .normal s) ∧ (∀ l s, G P Ev F st (.label l) s = Gx P Ev F st .normal s) ∧
    (∀ i l s, G P Ev F st (.region i (List.toArray l) false) s = Gr P Ev F st l none l s.next s) ∧ (∀ i l s, G P Ev F st (.region i (List.toArray l) true) s = Gr P Ev F st l (some []) l s.next s) ∧
    (∀ a b s, G P Ev F st (.seq a b) s = G P Ev F (.code b :: st) a s) ∧ (∀ c a b s, G P Ev F st (.cond c a b) s = Gb P Ev F st a b s (s.ev c)) ∧
    (∀ i c s, G P Ev F st (.block i c) s = G P Ev F (.block i :: st) c s) ∧ (∀ i s, G P Ev F st (.exit i) s = Gx P Ev F st (.exit i) s) ∧
    (∀ s, G P Ev F st .ret s = F .ret s) ∧ (∀ c s, G P Ev F st (.scope c) s = G P Ev F st c s) ∧ (∀ c s, G P Ev F st (.loop c) s = Gl P Ev F st c s) ∧
    (∀ s, Gx P Ev F [] .normal s = F .normal s) ∧ (∀ i s, Gx P Ev F [] (.exit i) s = F (.exit i) s) ∧ (∀ c s, Gx P Ev F (.code c :: st) .normal s = G P Ev F st c s) ∧ (∀ i s, Gx P Ev F (.block i :: st) .normal s = Gx P Ev F st .normal s) ∧
    (∀ c i s, Gx P Ev F (.code c :: st) (.exit i) s = Gx P Ev F st (.exit i) s) ∧
    (∀ a b s, Gb P Ev F st a b s (.val (.bool true)) = G P Ev F st a s) ∧ (∀ a b s, Gb P Ev F st a b s (.val (.bool false)) = G P Ev F st b s) ∧
    (∀ ops k s, Gr P Ev F st ops none [] k s = Gx P Ev F st .normal { s with next := k }) ∧ (∀ ops lg k s, Gr P Ev F st ops (some lg) [] k s = Gd P Ev F st ops lg { s with next := k }) ∧
    (∀ ops dst op ty pos af l k s, Gr P Ev F st ops none (⟨dst, op, ty, pos, af, none⟩ :: l) k s = Go P Ev F st ops none dst l op k s) ∧
    (∀ ops lg dst op ty pos af l k s, Gr P Ev F st ops (some lg) (⟨dst, op, ty, pos, af, none⟩ :: l) k s = Go P Ev F st ops (some (s :: lg)) dst l op k s) ∧
    (∀ ops dst op ty pos af j want l k s, Gr P Ev F st ops none (⟨dst, op, ty, pos, af, some (j, want)⟩ :: l) k s = Gq P Ev F st ops none dst op l k s (dstV ops j s) want) ∧
    (∀ ops lg dst op ty pos af j want l k s, Gr P Ev F st ops (some lg) (⟨dst, op, ty, pos, af, some (j, want)⟩ :: l) k s = Gq P Ev F st ops (some (s :: lg)) dst op l k s (dstV ops j s) want) ∧
    (∀ ops d dst op l k s b want, Gq P Ev F st ops d dst op l k s (.val (.bool b)) want = Gg P Ev F st ops d dst op l k s (b == want)) ∧
    (∀ ops d dst op l k s, Gg P Ev F st ops d dst op l k s true = Go P Ev F st ops d dst l op k s) ∧
    (∀ ops d dst op l k s, Gg P Ev F st ops d dst op l k s false = Gr P Ev F st ops d l (k + 4) (s.put dst skipA)) ∧
    (∀ dst op ty pos af g l s, dstV (⟨some dst, op, ty, pos, af, g⟩ :: l) 0 s = s.ev (.tmp dst)) ∧ (∀ o l j s, dstV (o :: l) (j + 1) s = dstV l j s) := by
  refine ⟨fun _ => rfl, fun _ _ => rfl, fun _ _ _ => rfl, fun _ _ _ => rfl, fun _ _ _ => rfl, fun _ _ _ _ => rfl, fun _ _ _ => rfl, fun _ _ => rfl, fun s => cont_ret st s, fun _ _ => rfl, fun _ _ => rfl, fun _ => rfl, fun _ _ => rfl,
    fun _ _ => rfl, fun _ _ => rfl, fun _ _ _ => rfl, fun _ _ _ => rfl, fun _ _ _ => rfl, fun _ _ _ => ?_, fun _ _ _ _ => rfl, fun _ _ _ _ _ _ _ _ _ => rfl, fun _ _ _ _ _ _ _ _ _ _ => rfl, fun ops _ _ _ _ _ j _ _ _ s => ?_, fun ops _ _ _ _ _ _ j _ _ _ s => ?_,
    fun _ _ _ _ _ _ _ _ _ => rfl, fun _ _ _ _ _ _ _ => rfl, fun _ _ _ _ _ _ _ => rfl, fun _ _ _ _ _ _ _ _ => rfl, fun _ _ _ _ => rfl⟩
  · simp [Gr, run, Gx, okL]
  · simp only [Gr, run, gdK, Gq, dstV]
    cases dstOf ops j with
    | none => rfl
    | some x =>
      dsimp only
      split <;> simp_all [Gg, Go, Gr, br]
  · simp only [Gr, run, gdK, Gq, dstV]
    cases dstOf ops j with
    | none => rfl
    | some x =>
      dsimp only
      split <;> simp_all [Gg, Go, Gr, br]
theorem flow29 : ∀ ops d dst op l k s want, Gq P Ev F st ops d dst op l k s (.val (.tuple #[])) want = Gg P Ev F st ops d dst op l k s false := fun _ _ _ _ _ _ _ _ => propext Iff.rfl
theorem flow0 : ∀ s, G P Ev F st .skip s = Gx P Ev F st .normal s := (flow (P := P) (Ev := Ev) (F := F) (st := st)).1
theorem flow1 : ∀ l s, G P Ev F st (.label l) s = Gx P Ev F st .normal s := (flow (P := P) (Ev := Ev) (F := F) (st := st)).2.1
theorem flow2 : ∀ i l s, G P Ev F st (.region i (List.toArray l) false) s = Gr P Ev F st l none l s.next s := (flow (P := P) (Ev := Ev) (F := F) (st := st)).2.2.1
theorem flow3 : ∀ i l s, G P Ev F st (.region i (List.toArray l) true) s = Gr P Ev F st l (some []) l s.next s := (flow (P := P) (Ev := Ev) (F := F) (st := st)).2.2.2.1
theorem flow4 : ∀ a b s, G P Ev F st (.seq a b) s = G P Ev F (.code b :: st) a s := (flow (P := P) (Ev := Ev) (F := F) (st := st)).2.2.2.2.1
theorem flow5 : ∀ c a b s, G P Ev F st (.cond c a b) s = Gb P Ev F st a b s (s.ev c) := (flow (P := P) (Ev := Ev) (F := F) (st := st)).2.2.2.2.2.1
theorem flow6 : ∀ i c s, G P Ev F st (.block i c) s = G P Ev F (.block i :: st) c s := (flow (P := P) (Ev := Ev) (F := F) (st := st)).2.2.2.2.2.2.1
theorem flow7 : ∀ i s, G P Ev F st (.exit i) s = Gx P Ev F st (.exit i) s := (flow (P := P) (Ev := Ev) (F := F) (st := st)).2.2.2.2.2.2.2.1
theorem flow8 : ∀ s, G P Ev F st .ret s = F .ret s := (flow (P := P) (Ev := Ev) (F := F) (st := st)).2.2.2.2.2.2.2.2.1
theorem flow9 : ∀ c s, G P Ev F st (.scope c) s = G P Ev F st c s := (flow (P := P) (Ev := Ev) (F := F) (st := st)).2.2.2.2.2.2.2.2.2.1
theorem flow10 : ∀ c s, G P Ev F st (.loop c) s = Gl P Ev F st c s := (flow (P := P) (Ev := Ev) (F := F) (st := st)).2.2.2.2.2.2.2.2.2.2.1
theorem flow11 : ∀ s, Gx P Ev F [] .normal s = F .normal s := (flow (P := P) (Ev := Ev) (F := F) (st := [])).2.2.2.2.2.2.2.2.2.2.2.1
theorem flow12 : ∀ i s, Gx P Ev F [] (.exit i) s = F (.exit i) s := (flow (P := P) (Ev := Ev) (F := F) (st := [])).2.2.2.2.2.2.2.2.2.2.2.2.1
theorem flow13 : ∀ c s, Gx P Ev F (.code c :: st) .normal s = G P Ev F st c s := (flow (P := P) (Ev := Ev) (F := F) (st := st)).2.2.2.2.2.2.2.2.2.2.2.2.2.1
theorem flow14 : ∀ i s, Gx P Ev F (.block i :: st) .normal s = Gx P Ev F st .normal s := (flow (P := P) (Ev := Ev) (F := F) (st := st)).2.2.2.2.2.2.2.2.2.2.2.2.2.2.1
theorem flow15 : ∀ c i s, Gx P Ev F (.code c :: st) (.exit i) s = Gx P Ev F st (.exit i) s := (flow (P := P) (Ev := Ev) (F := F) (st := st)).2.2.2.2.2.2.2.2.2.2.2.2.2.2.2.1
theorem flow16 : ∀ a b s, Gb P Ev F st a b s (.val (.bool true)) = G P Ev F st a s := (flow (P := P) (Ev := Ev) (F := F) (st := st)).2.2.2.2.2.2.2.2.2.2.2.2.2.2.2.2.1
theorem flow17 : ∀ a b s, Gb P Ev F st a b s (.val (.bool false)) = G P Ev F st b s := (flow (P := P) (Ev := Ev) (F := F) (st := st)).2.2.2.2.2.2.2.2.2.2.2.2.2.2.2.2.2.1
theorem flow18 : ∀ ops k s, Gr P Ev F st ops none [] k s = Gx P Ev F st .normal { s with next := k } := (flow (P := P) (Ev := Ev) (F := F) (st := st)).2.2.2.2.2.2.2.2.2.2.2.2.2.2.2.2.2.2.1
theorem flow19 : ∀ ops lg k s, Gr P Ev F st ops (some lg) [] k s = Gd P Ev F st ops lg { s with next := k } := (flow (P := P) (Ev := Ev) (F := F) (st := st)).2.2.2.2.2.2.2.2.2.2.2.2.2.2.2.2.2.2.2.1
theorem flow20 : ∀ ops dst op ty pos af l k s, Gr P Ev F st ops none (⟨dst, op, ty, pos, af, none⟩ :: l) k s = Go P Ev F st ops none dst l op k s := (flow (P := P) (Ev := Ev) (F := F) (st := st)).2.2.2.2.2.2.2.2.2.2.2.2.2.2.2.2.2.2.2.2.1
theorem flow21 : ∀ ops lg dst op ty pos af l k s, Gr P Ev F st ops (some lg) (⟨dst, op, ty, pos, af, none⟩ :: l) k s = Go P Ev F st ops (some (s :: lg)) dst l op k s := (flow (P := P) (Ev := Ev) (F := F) (st := st)).2.2.2.2.2.2.2.2.2.2.2.2.2.2.2.2.2.2.2.2.2.1
theorem flow22 : ∀ ops dst op ty pos af j want l k s, Gr P Ev F st ops none (⟨dst, op, ty, pos, af, some (j, want)⟩ :: l) k s = Gq P Ev F st ops none dst op l k s (dstV ops j s) want := (flow (P := P) (Ev := Ev) (F := F) (st := st)).2.2.2.2.2.2.2.2.2.2.2.2.2.2.2.2.2.2.2.2.2.2.1
theorem flow23 : ∀ ops lg dst op ty pos af j want l k s, Gr P Ev F st ops (some lg) (⟨dst, op, ty, pos, af, some (j, want)⟩ :: l) k s = Gq P Ev F st ops (some (s :: lg)) dst op l k s (dstV ops j s) want := (flow (P := P) (Ev := Ev) (F := F) (st := st)).2.2.2.2.2.2.2.2.2.2.2.2.2.2.2.2.2.2.2.2.2.2.2.1
theorem flow24 : ∀ ops d dst op l k s b want, Gq P Ev F st ops d dst op l k s (.val (.bool b)) want = Gg P Ev F st ops d dst op l k s (b == want) := (flow (P := P) (Ev := Ev) (F := F) (st := st)).2.2.2.2.2.2.2.2.2.2.2.2.2.2.2.2.2.2.2.2.2.2.2.2.1
theorem flow25 : ∀ ops d dst op l k s, Gg P Ev F st ops d dst op l k s true = Go P Ev F st ops d dst l op k s := (flow (P := P) (Ev := Ev) (F := F) (st := st)).2.2.2.2.2.2.2.2.2.2.2.2.2.2.2.2.2.2.2.2.2.2.2.2.2.1
theorem flow26 : ∀ ops d dst op l k s, Gg P Ev F st ops d dst op l k s false = Gr P Ev F st ops d l (k + 4) (s.put dst skipA) := (flow (P := P) (Ev := Ev) (F := F) (st := st)).2.2.2.2.2.2.2.2.2.2.2.2.2.2.2.2.2.2.2.2.2.2.2.2.2.2.1
theorem flow27 : ∀ dst op ty pos af g l s, dstV (⟨some dst, op, ty, pos, af, g⟩ :: l) 0 s = s.ev (.tmp dst) := by intros; exact (rfl)
theorem flow28 : ∀ o l j s, dstV (o :: l) (j + 1) s = dstV l j s := by intros; exact (rfl)
theorem opsR {ops : List Oper} {d : Option (List St)} {dst : Option Tmp} {l : List Oper} {k : Nat} {s : St} :
    (∀ x, Go P Ev F st ops d dst l (.move x) k s = Gs P Ev F st ops d dst l k s (pure1 (s.ev x))) ∧ (∀ x, Go P Ev F st ops d dst l (.assign x) k s = Gs P Ev F st ops d dst l k s (pure1 (s.ev x))) ∧
    (∀ op t x y t', Go P Ev F st ops d dst l (.binOp op t x y t') k s = Gs P Ev F st ops d dst l k s (aBinT (cmpT P t) (ti P t) op (s.ev x) (s.ev y))) ∧
    (∀ op t x, Go P Ev F st ops d dst l (.unOp op t x) k s = Gs P Ev F st ops d dst l k s (aUn op (s.ev x))) ∧
    (∀ t u x, Go P Ev F st ops d dst l (.convert t u x) k s = Gs P Ev F st ops d dst l k s (aConvX s.heap (ti P (elemT (ti P t))) (ti P t) (ti P u) (s.ev x))) ∧
    (∀ t, Go P Ev F st ops d dst l (.alloc t) k s = Gs P Ev F st ops d dst l k s (match ti P t with | some t => some (.ref k 0, .set k (.box t.zero)) | none => none)) ∧
    (∀ t x, Go P Ev F st ops d dst l (.box t x) k s = Gs P Ev F st ops d dst l k s (match cellsOf (s.ev x) with | some cs => some (.ref k 0, .set k (.box cs)) | none => none)) ∧
    (∀ t ps, Go P Ev F st ops d dst l (.build t (List.toArray ps)) k s = Gs P Ev F st ops d dst l k s (aBuild (ti P t) (zipP ps ((ps.map (·.2)).map s.ev)))) ∧
    (∀ t n ps, Go P Ev F st ops d dst l (.buildSlice t n (List.toArray ps)) k s = Gs P Ev F st ops d dst l k s (aBuildSlice k (ti P t) n (zipP ps ((ps.map (·.2)).map s.ev)))) ∧
    (∀ t x, Go P Ev F st ops d dst l (.load t (.tmp x)) k s = Gs P Ev F st ops d dst l k s (aLoad s.heap (ti P t) (s.ev (.tmp x)))) ∧
    (∀ t g, Go P Ev F st ops d dst l (.load t (.global g)) k s = Gv P Ev F st ops d dst l k s t g) ∧
    (∀ t x y, Go P Ev F st ops d dst l (.store t x y) k s = Gs P Ev F st ops d dst l k s (aStore s.heap (ti P t) (s.ev x) (s.ev y))) ∧
    (∀ t x i, Go P Ev F st ops d dst l (.fieldAddr t x i) k s = Gs P Ev F st ops d dst l k s (aFieldAddr (ti P t) i (s.ev x))) ∧
    (∀ t x i, Go P Ev F st ops d dst l (.field t x i) k s = Gs P Ev F st ops d dst l k s (aField (ti P t) i (s.ev x))) ∧
    (∀ t x i, Go P Ev F st ops d dst l (.indexAddr t x i) k s = Gs P Ev F st ops d dst l k s (aIndexAddr s.heap (ti P t) (s.ev x) (s.ev i))) ∧
    (∀ t x i, Go P Ev F st ops d dst l (.index t x i) k s = Gs P Ev F st ops d dst l k s (aIndex (ti P t) (s.ev x) (s.ev i))) ∧
    (∀ t x lo hi mx, Go P Ev F st ops d dst l (.slice t x lo hi mx) k s = Gs P Ev F st ops d dst l k s (aSlice s.heap (ti P t) lo hi mx ((x :: (lo.toList ++ hi.toList ++ mx.toList)).map s.ev))) ∧
    (∀ f az ts, Go P Ev F st ops d dst l (.call ⟨.value f, List.toArray az, ts⟩) k s = Gc P Ev F st ops d dst l k s (softL s.heap (s.ev f :: az.map s.ev)) (ownsL (s.ev f :: az.map s.ev))) ∧
    (∀ b az ts, Go P Ev F st ops d dst l (.call ⟨.builtin b, List.toArray az, List.toArray ts⟩) k s = Gs P Ev F st ops d dst l k s (aBuiltin P s.heap k b ts (az.map s.ev))) ∧
    (∀ f a c, Go P Ev F st ops d dst l (.makeFunc (.func f) (List.toArray a) (List.toArray c)) k s = Gs P Ev F st ops d dst l k s (pure1 (.fn f (a.map s.ev) (c.map s.ev)))) ∧
    (∀ x v, s.ev x = .tup v → ∀ i, Go P Ev F st ops d dst l (.extract x i) k s = Gs P Ev F st ops d dst l k s (match nth i v with | some v => pure1 v | none => none)) := by
  refine ⟨fun _ => rfl, fun _ => rfl, fun _ _ _ _ _ => rfl, fun _ _ _ => rfl, fun _ _ _ => rfl, fun _ => rfl, fun _ _ => rfl, fun _ _ => rfl, fun _ _ _ => rfl, fun _ _ => rfl, fun _ _ => rfl, fun _ _ _ => rfl,
    fun _ _ _ => rfl, fun _ _ _ => rfl, fun _ _ _ => rfl, fun _ _ _ => rfl, fun _ _ _ _ _ => rfl, fun _ _ _ => rfl, fun _ _ _ => rfl, fun f a c => ?_, fun x v h i => ?_⟩
  · simp [Go, opK, opnds, astep, Gs, List.take_append]
  · show stepK (astep P (.extract x i) k [s.ev x] s.heap) _ = _
    rw [h]
    rfl
theorem opsR0 {ops : List Oper} {d : Option (List St)} {dst : Option Tmp} {l : List Oper} {k : Nat} {s : St} : ∀ x, Go P Ev F st ops d dst l (.move x) k s = Gs P Ev F st ops d dst l k s (pure1 (s.ev x)) := (opsR (P := P) (Ev := Ev) (F := F) (st := st) (ops := ops) (d := d) (dst := dst) (l := l) (k := k) (s := s)).1
theorem opsR1 {ops : List Oper} {d : Option (List St)} {dst : Option Tmp} {l : List Oper} {k : Nat} {s : St} : ∀ x, Go P Ev F st ops d dst l (.assign x) k s = Gs P Ev F st ops d dst l k s (pure1 (s.ev x)) := (opsR (P := P) (Ev := Ev) (F := F) (st := st) (ops := ops) (d := d) (dst := dst) (l := l) (k := k) (s := s)).2.1
theorem opsR2 {ops : List Oper} {d : Option (List St)} {dst : Option Tmp} {l : List Oper} {k : Nat} {s : St} : ∀ op t x y t', Go P Ev F st ops d dst l (.binOp op t x y t') k s = Gs P Ev F st ops d dst l k s (aBinT (cmpT P t) (ti P t) op (s.ev x) (s.ev y)) := (opsR (P := P) (Ev := Ev) (F := F) (st := st) (ops := ops) (d := d) (dst := dst) (l := l) (k := k) (s := s)).2.2.1
theorem opsR3 {ops : List Oper} {d : Option (List St)} {dst : Option Tmp} {l : List Oper} {k : Nat} {s : St} : ∀ op t x, Go P Ev F st ops d dst l (.unOp op t x) k s = Gs P Ev F st ops d dst l k s (aUn op (s.ev x)) := (opsR (P := P) (Ev := Ev) (F := F) (st := st) (ops := ops) (d := d) (dst := dst) (l := l) (k := k) (s := s)).2.2.2.1
theorem opsR4 {ops : List Oper} {d : Option (List St)} {dst : Option Tmp} {l : List Oper} {k : Nat} {s : St} : ∀ t u x, Go P Ev F st ops d dst l (.convert t u x) k s = Gs P Ev F st ops d dst l k s (aConvX s.heap (ti P (elemT (ti P t))) (ti P t) (ti P u) (s.ev x)) := (opsR (P := P) (Ev := Ev) (F := F) (st := st) (ops := ops) (d := d) (dst := dst) (l := l) (k := k) (s := s)).2.2.2.2.1
theorem opsR5 {ops : List Oper} {d : Option (List St)} {dst : Option Tmp} {l : List Oper} {k : Nat} {s : St} : ∀ t, Go P Ev F st ops d dst l (.alloc t) k s = Gs P Ev F st ops d dst l k s (match ti P t with | some t => some (.ref k 0, .set k (.box t.zero)) | none => none) := (opsR (P := P) (Ev := Ev) (F := F) (st := st) (ops := ops) (d := d) (dst := dst) (l := l) (k := k) (s := s)).2.2.2.2.2.1
theorem opsR6 {ops : List Oper} {d : Option (List St)} {dst : Option Tmp} {l : List Oper} {k : Nat} {s : St} : ∀ t x, Go P Ev F st ops d dst l (.box t x) k s = Gs P Ev F st ops d dst l k s (match cellsOf (s.ev x) with | some cs => some (.ref k 0, .set k (.box cs)) | none => none) := (opsR (P := P) (Ev := Ev) (F := F) (st := st) (ops := ops) (d := d) (dst := dst) (l := l) (k := k) (s := s)).2.2.2.2.2.2.1
theorem opsR7 {ops : List Oper} {d : Option (List St)} {dst : Option Tmp} {l : List Oper} {k : Nat} {s : St} : ∀ t ps, Go P Ev F st ops d dst l (.build t (List.toArray ps)) k s = Gs P Ev F st ops d dst l k s (aBuild (ti P t) (zipP ps ((ps.map (·.2)).map s.ev))) := (opsR (P := P) (Ev := Ev) (F := F) (st := st) (ops := ops) (d := d) (dst := dst) (l := l) (k := k) (s := s)).2.2.2.2.2.2.2.1
theorem opsR8 {ops : List Oper} {d : Option (List St)} {dst : Option Tmp} {l : List Oper} {k : Nat} {s : St} : ∀ t n ps, Go P Ev F st ops d dst l (.buildSlice t n (List.toArray ps)) k s = Gs P Ev F st ops d dst l k s (aBuildSlice k (ti P t) n (zipP ps ((ps.map (·.2)).map s.ev))) := (opsR (P := P) (Ev := Ev) (F := F) (st := st) (ops := ops) (d := d) (dst := dst) (l := l) (k := k) (s := s)).2.2.2.2.2.2.2.2.1
theorem opsR9 {ops : List Oper} {d : Option (List St)} {dst : Option Tmp} {l : List Oper} {k : Nat} {s : St} : ∀ t x, Go P Ev F st ops d dst l (.load t (.tmp x)) k s = Gs P Ev F st ops d dst l k s (aLoad s.heap (ti P t) (s.ev (.tmp x))) := (opsR (P := P) (Ev := Ev) (F := F) (st := st) (ops := ops) (d := d) (dst := dst) (l := l) (k := k) (s := s)).2.2.2.2.2.2.2.2.2.1
theorem opsR10 {ops : List Oper} {d : Option (List St)} {dst : Option Tmp} {l : List Oper} {k : Nat} {s : St} : ∀ t g, Go P Ev F st ops d dst l (.load t (.global g)) k s = Gv P Ev F st ops d dst l k s t g := (opsR (P := P) (Ev := Ev) (F := F) (st := st) (ops := ops) (d := d) (dst := dst) (l := l) (k := k) (s := s)).2.2.2.2.2.2.2.2.2.2.1
theorem opsR11 {ops : List Oper} {d : Option (List St)} {dst : Option Tmp} {l : List Oper} {k : Nat} {s : St} : ∀ t x y, Go P Ev F st ops d dst l (.store t x y) k s = Gs P Ev F st ops d dst l k s (aStore s.heap (ti P t) (s.ev x) (s.ev y)) := (opsR (P := P) (Ev := Ev) (F := F) (st := st) (ops := ops) (d := d) (dst := dst) (l := l) (k := k) (s := s)).2.2.2.2.2.2.2.2.2.2.2.1
theorem opsR12 {ops : List Oper} {d : Option (List St)} {dst : Option Tmp} {l : List Oper} {k : Nat} {s : St} : ∀ t x i, Go P Ev F st ops d dst l (.fieldAddr t x i) k s = Gs P Ev F st ops d dst l k s (aFieldAddr (ti P t) i (s.ev x)) := (opsR (P := P) (Ev := Ev) (F := F) (st := st) (ops := ops) (d := d) (dst := dst) (l := l) (k := k) (s := s)).2.2.2.2.2.2.2.2.2.2.2.2.1
theorem opsR13 {ops : List Oper} {d : Option (List St)} {dst : Option Tmp} {l : List Oper} {k : Nat} {s : St} : ∀ t x i, Go P Ev F st ops d dst l (.field t x i) k s = Gs P Ev F st ops d dst l k s (aField (ti P t) i (s.ev x)) := (opsR (P := P) (Ev := Ev) (F := F) (st := st) (ops := ops) (d := d) (dst := dst) (l := l) (k := k) (s := s)).2.2.2.2.2.2.2.2.2.2.2.2.2.1
theorem opsR14 {ops : List Oper} {d : Option (List St)} {dst : Option Tmp} {l : List Oper} {k : Nat} {s : St} : ∀ t x i, Go P Ev F st ops d dst l (.indexAddr t x i) k s = Gs P Ev F st ops d dst l k s (aIndexAddr s.heap (ti P t) (s.ev x) (s.ev i)) := (opsR (P := P) (Ev := Ev) (F := F) (st := st) (ops := ops) (d := d) (dst := dst) (l := l) (k := k) (s := s)).2.2.2.2.2.2.2.2.2.2.2.2.2.2.1
theorem opsR15 {ops : List Oper} {d : Option (List St)} {dst : Option Tmp} {l : List Oper} {k : Nat} {s : St} : ∀ t x i, Go P Ev F st ops d dst l (.index t x i) k s = Gs P Ev F st ops d dst l k s (aIndex (ti P t) (s.ev x) (s.ev i)) := (opsR (P := P) (Ev := Ev) (F := F) (st := st) (ops := ops) (d := d) (dst := dst) (l := l) (k := k) (s := s)).2.2.2.2.2.2.2.2.2.2.2.2.2.2.2.1
theorem opsR16 {ops : List Oper} {d : Option (List St)} {dst : Option Tmp} {l : List Oper} {k : Nat} {s : St} : ∀ t x lo hi mx, Go P Ev F st ops d dst l (.slice t x lo hi mx) k s = Gs P Ev F st ops d dst l k s (aSlice s.heap (ti P t) lo hi mx ((x :: (lo.toList ++ hi.toList ++ mx.toList)).map s.ev)) := (opsR (P := P) (Ev := Ev) (F := F) (st := st) (ops := ops) (d := d) (dst := dst) (l := l) (k := k) (s := s)).2.2.2.2.2.2.2.2.2.2.2.2.2.2.2.2.1
theorem opsR17 {ops : List Oper} {d : Option (List St)} {dst : Option Tmp} {l : List Oper} {k : Nat} {s : St} : ∀ f az ts, Go P Ev F st ops d dst l (.call ⟨.value f, List.toArray az, ts⟩) k s = Gc P Ev F st ops d dst l k s (softL s.heap (s.ev f :: az.map s.ev)) (ownsL (s.ev f :: az.map s.ev)) := (opsR (P := P) (Ev := Ev) (F := F) (st := st) (ops := ops) (d := d) (dst := dst) (l := l) (k := k) (s := s)).2.2.2.2.2.2.2.2.2.2.2.2.2.2.2.2.2.1
theorem opsR18 {ops : List Oper} {d : Option (List St)} {dst : Option Tmp} {l : List Oper} {k : Nat} {s : St} : ∀ b az ts, Go P Ev F st ops d dst l (.call ⟨.builtin b, List.toArray az, List.toArray ts⟩) k s = Gs P Ev F st ops d dst l k s (aBuiltin P s.heap k b ts (az.map s.ev)) := (opsR (P := P) (Ev := Ev) (F := F) (st := st) (ops := ops) (d := d) (dst := dst) (l := l) (k := k) (s := s)).2.2.2.2.2.2.2.2.2.2.2.2.2.2.2.2.2.2.1
theorem opsR19 {ops : List Oper} {d : Option (List St)} {dst : Option Tmp} {l : List Oper} {k : Nat} {s : St} : ∀ f a c, Go P Ev F st ops d dst l (.makeFunc (.func f) (List.toArray a) (List.toArray c)) k s = Gs P Ev F st ops d dst l k s (pure1 (.fn f (a.map s.ev) (c.map s.ev))) := (opsR (P := P) (Ev := Ev) (F := F) (st := st) (ops := ops) (d := d) (dst := dst) (l := l) (k := k) (s := s)).2.2.2.2.2.2.2.2.2.2.2.2.2.2.2.2.2.2.2.1
theorem slots :
    (∀ n t h x k, St.ev ⟨n, t, h, x⟩ (.tmp k) = (look k t).getD .top) ∧ (∀ s v, St.ev s (.const v) = ofV v) ∧ (∀ s g, St.ev s (.global g) = .val (.pointer (some ⟨g, 0, none⟩))) ∧ (∀ s f, St.ev s (.func f) = .fn f [] []) ∧
    (∀ s v, St.put s none v = s) ∧ (∀ n t h x d v, St.put ⟨n, t, h, x⟩ (some d) v = if d < n then ⟨n, (d, v) :: t, h, x⟩ else ⟨n, t, h, x⟩) ∧
    (∀ n t h x id b, St.upd ⟨n, t, h, x⟩ (.set id b) = ⟨n, t, hset id b h, x⟩) ∧ (∀ n t h x j id b, St.upd ⟨n, t, h, x⟩ (.move j id b) = ⟨n, t, hset id b (hdel j h), x⟩) ∧ (∀ n t h x id, St.upd ⟨n, t, h, x⟩ (.del id) = ⟨n, t, hdel id h, x⟩) ∧
    (∀ n t h x nb, St.more ⟨n, t, h, x⟩ nb = ⟨n, t, nb ++ h, x⟩) ∧
    (∀ k j (a : AV) l, look k ((j, a) :: l) = if j == k then some a else look k l) ∧ (∀ k j (a : Blk) l, look k ((j, a) :: l) = if j == k then some a else look k l) := by
  refine ⟨fun n t h x k => ?_, fun _ _ => rfl, fun _ _ => rfl, fun _ _ => rfl, fun _ _ => rfl, fun _ _ _ _ _ _ => rfl, fun _ _ _ _ _ _ => rfl, fun _ _ _ _ _ _ _ => rfl, fun _ _ _ _ _ => rfl, fun _ _ _ _ _ => rfl, fun _ _ _ _ => rfl, fun _ _ _ _ => rfl⟩
  unfold St.ev
  dsimp only
  cases look k t <;> rfl
theorem slots0 : ∀ n t h x k, St.ev ⟨n, t, h, x⟩ (.tmp k) = (look k t).getD .top := slots.1
theorem slots1 : ∀ s v, St.ev s (.const v) = ofV v := slots.2.1
theorem slots2 : ∀ s g, St.ev s (.global g) = .val (.pointer (some ⟨g, 0, none⟩)) := slots.2.2.1
theorem slots3 : ∀ s f, St.ev s (.func f) = .fn f [] [] := slots.2.2.2.1
theorem slots4 : ∀ s v, St.put s none v = s := slots.2.2.2.2.1
theorem slots5 : ∀ n t h x d v, St.put ⟨n, t, h, x⟩ (some d) v = if d < n then ⟨n, (d, v) :: t, h, x⟩ else ⟨n, t, h, x⟩ := slots.2.2.2.2.2.1
theorem slots6 : ∀ n t h x id b, St.upd ⟨n, t, h, x⟩ (.set id b) = ⟨n, t, hset id b h, x⟩ := slots.2.2.2.2.2.2.1
theorem slots7 : ∀ n t h x j id b, St.upd ⟨n, t, h, x⟩ (.move j id b) = ⟨n, t, hset id b (hdel j h), x⟩ := slots.2.2.2.2.2.2.2.1
theorem slots8 : ∀ n t h x id, St.upd ⟨n, t, h, x⟩ (.del id) = ⟨n, t, hdel id h, x⟩ := slots.2.2.2.2.2.2.2.2.1
theorem slots9 : ∀ n t h x nb, St.more ⟨n, t, h, x⟩ nb = ⟨n, t, nb ++ h, x⟩ := slots.2.2.2.2.2.2.2.2.2.1
theorem slots10 : ∀ k j (a : AV) l, look k ((j, a) :: l) = if j == k then some a else look k l := slots.2.2.2.2.2.2.2.2.2.2.1
theorem slots11 : ∀ k j (a : Blk) l, look k ((j, a) :: l) = if j == k then some a else look k l := slots.2.2.2.2.2.2.2.2.2.2.2
theorem nums :
    (∀ t k a b, aBin t .add (.val (.int k a)) (.val (.int k b)) = vI k (k.wrap (a + b))) ∧ (∀ t k a b, aBin t .sub (.val (.int k a)) (.val (.int k b)) = vI k (k.wrap (a - b))) ∧ (∀ t k a b, aBin t .mul (.val (.int k a)) (.val (.int k b)) = vI k (k.wrap (a * b))) ∧
    (∀ t k a b, aBin t .quo (.val (.int k a)) (.val (.int k b)) = if b = 0 then none else vI k (k.wrap (a.tdiv b))) ∧ (∀ t k a b, aBin t .rem (.val (.int k a)) (.val (.int k b)) = if b = 0 then none else vI k (a.tmod b)) ∧
    (∀ t k a b, aBin t .and (.val (.int k a)) (.val (.int k b)) = vI k (k.wrap (bitsOf k a &&& bitsOf k b).toNat)) ∧ (∀ t k a b, aBin t .or (.val (.int k a)) (.val (.int k b)) = vI k (k.wrap (bitsOf k a ||| bitsOf k b).toNat)) ∧
    (∀ t k a b, aBin t .xor (.val (.int k a)) (.val (.int k b)) = vI k (k.wrap (bitsOf k a ^^^ bitsOf k b).toNat)) ∧ (∀ t k a b, aBin t .andNot (.val (.int k a)) (.val (.int k b)) = vI k (k.wrap (bitsOf k a &&& ~~~ bitsOf k b).toNat)) ∧
    (∀ t k j a b, aBin t .shl (.val (.int k a)) (.val (.int j b)) = if b < 0 then none else vI k (k.wrap (a * 2 ^ min b.toNat k.bits))) ∧ (∀ t k j a b, aBin t .shr (.val (.int k a)) (.val (.int j b)) = if b < 0 then none else vI k (a.fdiv (2 ^ min b.toNat k.bits))) ∧
    (∀ t k a b, aBin t .eql (.val (.int k a)) (.val (.int k b)) = vB (a == b)) ∧ (∀ t k a b, aBin t .neq (.val (.int k a)) (.val (.int k b)) = vB (a != b)) ∧ (∀ t k a b, aBin t .lss (.val (.int k a)) (.val (.int k b)) = vB (decide (a < b))) ∧
    (∀ t k a b, aBin t .leq (.val (.int k a)) (.val (.int k b)) = vB (decide (a ≤ b))) ∧ (∀ t k a b, aBin t .gtr (.val (.int k a)) (.val (.int k b)) = vB (decide (b < a))) ∧ (∀ t k a b, aBin t .geq (.val (.int k a)) (.val (.int k b)) = vB (decide (b ≤ a))) ∧
    (∀ t a b, aBin t .add (.val (.string a)) (.val (.string b)) = if a.size + b.size ≤ maxS then vS (a ++ b) else none) ∧ (∀ t a b, aBin t .eql (.val (.string a)) (.val (.string b)) = vB (decide (a = b))) ∧ (∀ t a b, aBin t .neq (.val (.string a)) (.val (.string b)) = vB (!decide (a = b))) ∧
    (∀ n g z a b, aBin (some ⟨.bool, n, g, z⟩) .eql (.val (.bool a)) (.val (.bool b)) = vB (a == b)) ∧ (∀ n g z a b, aBin (some ⟨.bool, n, g, z⟩) .neq (.val (.bool a)) (.val (.bool b)) = vB (a != b)) ∧
    (∀ k a, aUn .neg (.val (.int k a)) = vI k (k.wrap (0 - a))) ∧ (∀ b, aUn .not (.val (.bool b)) = vB (!b)) := by
  refine ⟨?_, ?_, ?_, ?_, ?_, ?_, ?_, ?_, ?_, ?_, ?_, ?_, ?_, ?_, ?_, ?_, ?_, ?_, ?_, ?_, ?_, ?_, ?_, ?_⟩ <;> intros <;> simp [aBin, aUn]
theorem nums0 : ∀ t k a b, aBin t .add (.val (.int k a)) (.val (.int k b)) = vI k (k.wrap (a + b)) := nums.1
theorem nums1 : ∀ t k a b, aBin t .sub (.val (.int k a)) (.val (.int k b)) = vI k (k.wrap (a - b)) := nums.2.1
theorem nums2 : ∀ t k a b, aBin t .mul (.val (.int k a)) (.val (.int k b)) = vI k (k.wrap (a * b)) := nums.2.2.1
theorem nums3 : ∀ t k a b, aBin t .quo (.val (.int k a)) (.val (.int k b)) = if b = 0 then none else vI k (k.wrap (a.tdiv b)) := nums.2.2.2.1
theorem nums4 : ∀ t k a b, aBin t .rem (.val (.int k a)) (.val (.int k b)) = if b = 0 then none else vI k (a.tmod b) := nums.2.2.2.2.1
theorem nums5 : ∀ t k a b, aBin t .and (.val (.int k a)) (.val (.int k b)) = vI k (k.wrap (bitsOf k a &&& bitsOf k b).toNat) := nums.2.2.2.2.2.1
theorem nums6 : ∀ t k a b, aBin t .or (.val (.int k a)) (.val (.int k b)) = vI k (k.wrap (bitsOf k a ||| bitsOf k b).toNat) := nums.2.2.2.2.2.2.1
theorem nums7 : ∀ t k a b, aBin t .xor (.val (.int k a)) (.val (.int k b)) = vI k (k.wrap (bitsOf k a ^^^ bitsOf k b).toNat) := nums.2.2.2.2.2.2.2.1
theorem nums8 : ∀ t k a b, aBin t .andNot (.val (.int k a)) (.val (.int k b)) = vI k (k.wrap (bitsOf k a &&& ~~~ bitsOf k b).toNat) := nums.2.2.2.2.2.2.2.2.1
theorem nums9 : ∀ t k j a b, aBin t .shl (.val (.int k a)) (.val (.int j b)) = if b < 0 then none else vI k (k.wrap (a * 2 ^ min b.toNat k.bits)) := nums.2.2.2.2.2.2.2.2.2.1
theorem nums10 : ∀ t k j a b, aBin t .shr (.val (.int k a)) (.val (.int j b)) = if b < 0 then none else vI k (a.fdiv (2 ^ min b.toNat k.bits)) := nums.2.2.2.2.2.2.2.2.2.2.1
theorem nums11 : ∀ t k a b, aBin t .eql (.val (.int k a)) (.val (.int k b)) = vB (a == b) := nums.2.2.2.2.2.2.2.2.2.2.2.1
theorem nums12 : ∀ t k a b, aBin t .neq (.val (.int k a)) (.val (.int k b)) = vB (a != b) := nums.2.2.2.2.2.2.2.2.2.2.2.2.1
theorem nums13 : ∀ t k a b, aBin t .lss (.val (.int k a)) (.val (.int k b)) = vB (decide (a < b)) := nums.2.2.2.2.2.2.2.2.2.2.2.2.2.1
theorem nums14 : ∀ t k a b, aBin t .leq (.val (.int k a)) (.val (.int k b)) = vB (decide (a ≤ b)) := nums.2.2.2.2.2.2.2.2.2.2.2.2.2.2.1
theorem nums15 : ∀ t k a b, aBin t .gtr (.val (.int k a)) (.val (.int k b)) = vB (decide (b < a)) := nums.2.2.2.2.2.2.2.2.2.2.2.2.2.2.2.1
theorem nums16 : ∀ t k a b, aBin t .geq (.val (.int k a)) (.val (.int k b)) = vB (decide (b ≤ a)) := nums.2.2.2.2.2.2.2.2.2.2.2.2.2.2.2.2.1
theorem nums17 : ∀ t a b, aBin t .add (.val (.string a)) (.val (.string b)) = if a.size + b.size ≤ maxS then vS (a ++ b) else none := nums.2.2.2.2.2.2.2.2.2.2.2.2.2.2.2.2.2.1
theorem nums18 : ∀ t a b, aBin t .eql (.val (.string a)) (.val (.string b)) = vB (decide (a = b)) := nums.2.2.2.2.2.2.2.2.2.2.2.2.2.2.2.2.2.2.1
theorem nums19 : ∀ t a b, aBin t .neq (.val (.string a)) (.val (.string b)) = vB (!decide (a = b)) := nums.2.2.2.2.2.2.2.2.2.2.2.2.2.2.2.2.2.2.2.1
theorem nums20 : ∀ n g z a b, aBin (some ⟨.bool, n, g, z⟩) .eql (.val (.bool a)) (.val (.bool b)) = vB (a == b) := nums.2.2.2.2.2.2.2.2.2.2.2.2.2.2.2.2.2.2.2.2.1
theorem nums21 : ∀ n g z a b, aBin (some ⟨.bool, n, g, z⟩) .neq (.val (.bool a)) (.val (.bool b)) = vB (a != b) := nums.2.2.2.2.2.2.2.2.2.2.2.2.2.2.2.2.2.2.2.2.2.1
theorem nums22 : ∀ k a, aUn .neg (.val (.int k a)) = vI k (k.wrap (0 - a)) := nums.2.2.2.2.2.2.2.2.2.2.2.2.2.2.2.2.2.2.2.2.2.2.1
theorem nums23 : ∀ b, aUn .not (.val (.bool b)) = vB (!b) := nums.2.2.2.2.2.2.2.2.2.2.2.2.2.2.2.2.2.2.2.2.2.2.2
theorem bint0 {l t op v y} : aBinT l t op (.val v) y = aBin t op (.val v) y := by unfold aBinT; rfl
theorem bint1 {l t op y} : aBinT l t op .nil y = aBin t op .nil y := by unfold aBinT; rfl
theorem bint2 {l t op r y} : aBinT l t op (.lst r) y = aBin t op (.lst r) y := by unfold aBinT; rfl
theorem bint3 {l t op r y} : aBinT l t op (.own r) y = aBin t op (.own r) y := by unfold aBinT; rfl
theorem bint4 {ks t xs ys} : aBinT (some ks) t .eql (.agg xs) (.agg ys) = if fitsA ks xs && fitsA ks ys then vB (eqA xs ys) else none := by unfold aBinT aEqA; rfl
theorem bint5 {ks t xs ys} : aBinT (some ks) t .neq (.agg xs) (.agg ys) = if fitsA ks xs && fitsA ks ys then vB (!eqA xs ys) else none := by unfold aBinT aEqA; rfl
theorem Gb_split {a b : Code} {s : St} {t : Bool} (h : t = true → G P Ev F st a s) (h' : t = false → G P Ev F st b s) : Gb P Ev F st a b s (.val (.bool t)) := by
  cases t
  · exact h' rfl
  · exact h rfl
theorem Gc_call {ops d dst l k s f fs cs az own r nb} (h : ACalls P Ev f (fs ++ (az ++ cs)) r nb) (ho : own = false ∨ flat r = true ∧ (nb.all fun x => flatB x.2) = true) (hn : (nb.all fun x => x.1 < 4) = true)
    (hK : Gr P Ev F st ops d l (k + 4) ((s.put dst (ren (sh k) r)).more (adopt k nb))) : Gc P Ev F st ops d dst l k s (.fn f fs cs :: az) own := ⟨r, nb, h, ho, hn, hK⟩
theorem Gv_glob {ops d dst l k s t g r} (h : AGlob P Ev t (.pointer (some ⟨g, 0, none⟩)) r) (hK : Gr P Ev F st ops d l (k + 4) (s.put dst r)) : Gv P Ev F st ops d dst l k s t g := ⟨r, h, hK⟩
theorem Gl_loop {c : Code} {s : St} {ι : Type} (T : ι → St) (μ : ι → Nat) (i : ι) (h0 : Le s (T i))
    (h : ∀ i, ∀ F' : Ex → St → Prop, (∀ s j, Le s (T j) → μ j < μ i → F' .normal s) → (∀ id s, Gx P Ev F st (.exit id) s → F' (.exit id) s) → (∀ s, F .ret s → F' .ret s) → G P Ev F' [] c (T i)) : Gl P Ev F st c s :=
  ⟨ι, T, μ, i, h0, fun i => h i _ (fun s j h1 h2 => ⟨j, h1, h2⟩) (fun id s hx => hx) fun s hr => by
    show cont P Ev F st .ret s
    rw [cont_ret]
    exact hr⟩
theorem nat_lt0 (n : Nat) : ((n : Int) < 0) = False := by simp
theorem nat_ge0 (n : Nat) : (0 ≤ (n : Int)) = True := by simp
theorem w64 {x : Int} (h : -9223372036854775808 ≤ x ∧ x ≤ 9223372036854775807) : IntKind.i64.wrap x = x := by
  unfold IntKind.wrap
  simp [IntKind.signed, IntKind.bits]
  split <;> omega
end
end E
end
section
namespace E
theorem ti_2 : ti Tryz.prog 2 = some ⟨.int .i64, 1, false, [.val (.int .i64 0)]⟩ := by kernel_rfl
theorem ti_3 : ti Tryz.prog 3 = some ⟨.int .i64, 1, false, [.val (.int .i64 0)]⟩ := by kernel_rfl
theorem ti_4 : ti Tryz.prog 4 = some ⟨.bool, 1, false, [.val (.bool false)]⟩ := by kernel_rfl
theorem ti_5 : ti Tryz.prog 5 = some ⟨.int .u8, 1, false, [.val (.int .u8 0)]⟩ := by kernel_rfl
theorem ti_6 : ti Tryz.prog 6 = some ⟨.int .u8, 1, false, [.val (.int .u8 0)]⟩ := by kernel_rfl
theorem ti_7 : ti Tryz.prog 7 = some ⟨.struct [⟨0, 1, false⟩, ⟨1, 1, false⟩, ⟨2, 1, false⟩, ⟨3, 1, false⟩], 4, true, [.val (.int .i64 0), .val (.int .i64 0), .val (.bool false), .val (.int .u8 0)]⟩ := by kernel_rfl
theorem ti_8 : ti Tryz.prog 8 = some ⟨.struct [⟨0, 1, false⟩, ⟨1, 1, false⟩, ⟨2, 1, false⟩, ⟨3, 1, false⟩], 4, true, [.val (.int .i64 0), .val (.int .i64 0), .val (.bool false), .val (.int .u8 0)]⟩ := by kernel_rfl
theorem ti_9 : ti Tryz.prog 9 = some ⟨.str, 1, false, [.val (.string ⟨#[]⟩)]⟩ := by kernel_rfl
theorem ti_10 : ti Tryz.prog 10 = some ⟨.str, 1, false, [.val (.string ⟨#[]⟩)]⟩ := by kernel_rfl
theorem ti_11 : ti Tryz.prog 11 = some ⟨.str, 1, false, [.val (.string ⟨#[]⟩)]⟩ := by kernel_rfl
theorem ti_12 : ti Tryz.prog 12 = some ⟨.int .u64, 1, false, [.val (.int .u64 0)]⟩ := by kernel_rfl
theorem ti_13 : ti Tryz.prog 13 = some ⟨.struct [⟨0, 1, false⟩, ⟨1, 1, false⟩], 2, true, [.val (.string ⟨#[]⟩), .val (.int .u64 0)]⟩ := by kernel_rfl
theorem ti_14 : ti Tryz.prog 14 = some ⟨.struct [⟨0, 1, false⟩, ⟨1, 1, false⟩], 2, true, [.val (.string ⟨#[]⟩), .val (.int .u64 0)]⟩ := by kernel_rfl
theorem ti_15 : ti Tryz.prog 15 = some ⟨.other, 1, false, [.val (.pointer none)]⟩ := by kernel_rfl
theorem ti_16 : ti Tryz.prog 16 = some ⟨.other, 1, false, [.val (.pointer none)]⟩ := by kernel_rfl
theorem ti_17 : ti Tryz.prog 17 = some ⟨.other, 1, false, [.val (.pointer none)]⟩ := by kernel_rfl
theorem ti_18 : ti Tryz.prog 18 = some ⟨.struct [⟨0, 1, false⟩], 1, true, [.val (.pointer none)]⟩ := by kernel_rfl
theorem ti_19 : ti Tryz.prog 19 = some ⟨.struct [⟨0, 1, false⟩], 1, true, [.val (.pointer none)]⟩ := by kernel_rfl
theorem ti_21 : ti Tryz.prog 21 = some ⟨.int .i32, 1, false, [.val (.int .i32 0)]⟩ := by kernel_rfl
theorem ti_22 : ti Tryz.prog 22 = some ⟨.struct [⟨0, 1, false⟩, ⟨1, 1, false⟩], 2, true, [.val (.int .i64 0), .val (.int .i64 0)]⟩ := by kernel_rfl
theorem ti_23 : ti Tryz.prog 23 = some ⟨.struct [⟨0, 1, false⟩, ⟨1, 1, false⟩], 2, true, [.val (.int .i64 0), .val (.int .i64 0)]⟩ := by kernel_rfl
theorem ti_24 : ti Tryz.prog 24 = some ⟨.slice 48 1 1 [.val (.int .i8 0)], 1, false, [.nil]⟩ := by kernel_rfl
theorem ti_25 : ti Tryz.prog 25 = some ⟨.struct [⟨0, 2, true⟩, ⟨2, 1, false⟩, ⟨3, 1, false⟩, ⟨4, 1, false⟩, ⟨5, 1, false⟩, ⟨6, 1, false⟩, ⟨7, 1, false⟩], 8, true, [.val (.int .i64 0), .val (.int .i64 0), .nil, .val (.bool false), .val (.int .u8 0), .val (.int .i64 0), .val (.int .i64 0), .val (.int .i64 0)]⟩ := by kernel_rfl
theorem ti_26 : ti Tryz.prog 26 = some ⟨.struct [⟨0, 2, true⟩, ⟨2, 1, false⟩, ⟨3, 1, false⟩, ⟨4, 1, false⟩, ⟨5, 1, false⟩, ⟨6, 1, false⟩, ⟨7, 1, false⟩], 8, true, [.val (.int .i64 0), .val (.int .i64 0), .nil, .val (.bool false), .val (.int .u8 0), .val (.int .i64 0), .val (.int .i64 0), .val (.int .i64 0)]⟩ := by kernel_rfl
theorem ti_29 : ti Tryz.prog 29 = some ⟨.int .i64, 1, false, [.val (.int .i64 0)]⟩ := by kernel_rfl
theorem ti_39 : ti Tryz.prog 39 = some ⟨.struct [⟨0, 2, true⟩, ⟨2, 1, false⟩], 3, true, [.val (.int .i64 0), .val (.int .i64 0), .nil]⟩ := by kernel_rfl
theorem ti_40 : ti Tryz.prog 40 = some ⟨.struct [⟨0, 2, true⟩, ⟨2, 1, false⟩], 3, true, [.val (.int .i64 0), .val (.int .i64 0), .nil]⟩ := by kernel_rfl
theorem ti_47 : ti Tryz.prog 47 = some ⟨.int .i8, 1, false, [.val (.int .i8 0)]⟩ := by kernel_rfl
theorem ti_48 : ti Tryz.prog 48 = some ⟨.int .i8, 1, false, [.val (.int .i8 0)]⟩ := by kernel_rfl
theorem ti_51 : ti Tryz.prog 51 = some ⟨.int .i64, 1, false, [.val (.int .i64 0)]⟩ := by kernel_rfl
theorem ti_52 : ti Tryz.prog 52 = some ⟨.int .i64, 1, false, [.val (.int .i64 0)]⟩ := by kernel_rfl
theorem ti_53 : ti Tryz.prog 53 = some ⟨.struct [⟨0, 1, false⟩, ⟨1, 1, false⟩, ⟨2, 1, false⟩, ⟨3, 1, false⟩], 4, true, [.val (.int .i64 0), .val (.int .i64 0), .val (.int .i64 0), .val (.bool false)]⟩ := by kernel_rfl
theorem ti_54 : ti Tryz.prog 54 = some ⟨.struct [⟨0, 1, false⟩, ⟨1, 1, false⟩, ⟨2, 1, false⟩, ⟨3, 1, false⟩], 4, true, [.val (.int .i64 0), .val (.int .i64 0), .val (.int .i64 0), .val (.bool false)]⟩ := by kernel_rfl
theorem ti_77 : ti Tryz.prog 77 = some ⟨.slice 9 1 16 [.val (.string ⟨#[]⟩)], 1, false, [.nil]⟩ := by kernel_rfl
theorem ti_80 : ti Tryz.prog 80 = some ⟨.slice 28 1 8 [.val .nilFunc], 1, false, [.nil]⟩ := by kernel_rfl
theorem ti_84 : ti Tryz.prog 84 = some ⟨.struct [⟨0, 1, false⟩, ⟨1, 1, false⟩], 2, true, [.val (.int .i64 0), .val (.int .i64 0)]⟩ := by kernel_rfl
theorem ti_85 : ti Tryz.prog 85 = some ⟨.struct [⟨0, 1, false⟩, ⟨1, 1, false⟩], 2, true, [.val (.int .i64 0), .val (.int .i64 0)]⟩ := by kernel_rfl
theorem ti_90 : ti Tryz.prog 90 = some ⟨.struct [⟨0, 1, false⟩, ⟨1, 1, false⟩, ⟨2, 1, false⟩, ⟨3, 1, false⟩, ⟨4, 1, false⟩], 5, true, [.val (.int .u8 0), .val (.string ⟨#[]⟩), .val (.bool false), .val (.int .i64 0), .val (.int .i64 0)]⟩ := by kernel_rfl
theorem ti_91 : ti Tryz.prog 91 = some ⟨.struct [⟨0, 1, false⟩, ⟨1, 1, false⟩, ⟨2, 1, false⟩, ⟨3, 1, false⟩, ⟨4, 1, false⟩], 5, true, [.val (.int .u8 0), .val (.string ⟨#[]⟩), .val (.bool false), .val (.int .i64 0), .val (.int .i64 0)]⟩ := by kernel_rfl
theorem ti_92 : ti Tryz.prog 92 = some ⟨.arr 4 5 true, 20, true, [.val (.int .u8 0), .val (.string ⟨#[]⟩), .val (.bool false), .val (.int .i64 0), .val (.int .i64 0), .val (.int .u8 0), .val (.string ⟨#[]⟩), .val (.bool false), .val (.int .i64 0), .val (.int .i64 0), .val (.int .u8 0), .val (.string ⟨#[]⟩), .val (.bool false), .val (.int .i64 0), .val (.int .i64 0), .val (.int .u8 0), .val (.string ⟨#[]⟩), .val (.bool false), .val (.int .i64 0), .val (.int .i64 0)]⟩ := by kernel_rfl
theorem ti_104 : ti Tryz.prog 104 = some ⟨.other, 1, false, [.val .nilIface]⟩ := by kernel_rfl
theorem ti_117 : ti Tryz.prog 117 = some ⟨.arr 2 1 false, 2, true, [.val (.string ⟨#[]⟩), .val (.string ⟨#[]⟩)]⟩ := by kernel_rfl
theorem ti_118 : ti Tryz.prog 118 = some ⟨.arr 4 2 true, 8, true, [.val (.string ⟨#[]⟩), .val (.string ⟨#[]⟩), .val (.string ⟨#[]⟩), .val (.string ⟨#[]⟩), .val (.string ⟨#[]⟩), .val (.string ⟨#[]⟩), .val (.string ⟨#[]⟩), .val (.string ⟨#[]⟩)]⟩ := by kernel_rfl
theorem ti_122 : ti Tryz.prog 122 = some ⟨.slice 54 4 32 [.val (.int .i64 0), .val (.int .i64 0), .val (.int .i64 0), .val (.bool false)], 1, false, [.nil]⟩ := by kernel_rfl
theorem ti_129 : ti Tryz.prog 129 = some ⟨.int .u64, 1, false, [.val (.int .u64 0)]⟩ := by kernel_rfl
theorem ti_130 : ti Tryz.prog 130 = some ⟨.int .u64, 1, false, [.val (.int .u64 0)]⟩ := by kernel_rfl
theorem ti_136 : ti Tryz.prog 136 = some ⟨.slice 3 1 8 [.val (.int .i64 0)], 1, false, [.nil]⟩ := by kernel_rfl
theorem ti_140 : ti Tryz.prog 140 = some ⟨.slice 5 1 1 [.val (.int .u8 0)], 1, false, [.nil]⟩ := by kernel_rfl
theorem ti_145 : ti Tryz.prog 145 = some ⟨.other, 1, false, [.val .nilFunc]⟩ := by kernel_rfl
theorem ti_172 : ti Tryz.prog 172 = some ⟨.other, 1, false, [.val (.pointer none)]⟩ := by kernel_rfl
theorem ti_173 : ti Tryz.prog 173 = some ⟨.struct [⟨0, 1, false⟩, ⟨1, 1, false⟩], 2, true, [.val (.pointer none), .nil]⟩ := by kernel_rfl
theorem ti_174 : ti Tryz.prog 174 = some ⟨.struct [⟨0, 1, false⟩, ⟨1, 1, false⟩], 2, true, [.val (.pointer none), .nil]⟩ := by kernel_rfl
theorem ti_178 : ti Tryz.prog 178 = some ⟨.struct [⟨0, 1, false⟩, ⟨1, 1, false⟩, ⟨2, 1, false⟩], 3, true, [.val (.int .u8 0), .val (.int .i64 0), .val (.string ⟨#[]⟩)]⟩ := by kernel_rfl
theorem ti_179 : ti Tryz.prog 179 = some ⟨.struct [⟨0, 1, false⟩, ⟨1, 1, false⟩, ⟨2, 1, false⟩], 3, true, [.val (.int .u8 0), .val (.int .i64 0), .val (.string ⟨#[]⟩)]⟩ := by kernel_rfl
theorem ti_180 : ti Tryz.prog 180 = some ⟨.arr 15 3 true, 45, true, [.val (.int .u8 0), .val (.int .i64 0), .val (.string ⟨#[]⟩), .val (.int .u8 0), .val (.int .i64 0), .val (.string ⟨#[]⟩), .val (.int .u8 0), .val (.int .i64 0), .val (.string ⟨#[]⟩), .val (.int .u8 0), .val (.int .i64 0), .val (.string ⟨#[]⟩), .val (.int .u8 0), .val (.int .i64 0), .val (.string ⟨#[]⟩), .val (.int .u8 0), .val (.int .i64 0), .val (.string ⟨#[]⟩), .val (.int .u8 0), .val (.int .i64 0), .val (.string ⟨#[]⟩), .val (.int .u8 0), .val (.int .i64 0), .val (.string ⟨#[]⟩), .val (.int .u8 0), .val (.int .i64 0), .val (.string ⟨#[]⟩), .val (.int .u8 0), .val (.int .i64 0), .val (.string ⟨#[]⟩), .val (.int .u8 0), .val (.int .i64 0), .val (.string ⟨#[]⟩), .val (.int .u8 0), .val (.int .i64 0), .val (.string ⟨#[]⟩), .val (.int .u8 0), .val (.int .i64 0), .val (.string ⟨#[]⟩), .val (.int .u8 0), .val (.int .i64 0), .val (.string ⟨#[]⟩), .val (.int .u8 0), .val (.int .i64 0), .val (.string ⟨#[]⟩)]⟩ := by kernel_rfl
theorem ti_182 : ti Tryz.prog 182 = some ⟨.int .i64, 1, false, [.val (.int .i64 0)]⟩ := by kernel_rfl
theorem ti_185 : ti Tryz.prog 185 = some ⟨.other, 1, false, [.val (.pointer none)]⟩ := by kernel_rfl
theorem ti_195 : ti Tryz.prog 195 = some ⟨.arr 24 1 false, 24, true, [.val (.int .u8 0), .val (.int .u8 0), .val (.int .u8 0), .val (.int .u8 0), .val (.int .u8 0), .val (.int .u8 0), .val (.int .u8 0), .val (.int .u8 0), .val (.int .u8 0), .val (.int .u8 0), .val (.int .u8 0), .val (.int .u8 0), .val (.int .u8 0), .val (.int .u8 0), .val (.int .u8 0), .val (.int .u8 0), .val (.int .u8 0), .val (.int .u8 0), .val (.int .u8 0), .val (.int .u8 0), .val (.int .u8 0), .val (.int .u8 0), .val (.int .u8 0), .val (.int .u8 0)]⟩ := by kernel_rfl
theorem ti_200 : ti Tryz.prog 200 = some ⟨.other, 1, false, [.val (.pointer none)]⟩ := by kernel_rfl
theorem ti_205 : ti Tryz.prog 205 = some ⟨.int .u64, 1, false, [.val (.int .u64 0)]⟩ := by kernel_rfl
theorem ti_209 : ti Tryz.prog 209 = some ⟨.struct [⟨0, 1, false⟩, ⟨1, 1, false⟩, ⟨2, 1, false⟩], 3, true, [.val (.string ⟨#[]⟩), .val (.string ⟨#[]⟩), .val .nilIface]⟩ := by kernel_rfl
theorem ti_210 : ti Tryz.prog 210 = some ⟨.struct [⟨0, 1, false⟩, ⟨1, 1, false⟩, ⟨2, 1, false⟩], 3, true, [.val (.string ⟨#[]⟩), .val (.string ⟨#[]⟩), .val .nilIface]⟩ := by kernel_rfl
theorem ti_221 : ti Tryz.prog 221 = some ⟨.arr 20 1 false, 20, true, [.val (.int .u64 0), .val (.int .u64 0), .val (.int .u64 0), .val (.int .u64 0), .val (.int .u64 0), .val (.int .u64 0), .val (.int .u64 0), .val (.int .u64 0), .val (.int .u64 0), .val (.int .u64 0), .val (.int .u64 0), .val (.int .u64 0), .val (.int .u64 0), .val (.int .u64 0), .val (.int .u64 0), .val (.int .u64 0), .val (.int .u64 0), .val (.int .u64 0), .val (.int .u64 0), .val (.int .u64 0)]⟩ := by kernel_rfl
theorem ti_222 : ti Tryz.prog 222 = some ⟨.int .u32, 1, false, [.val (.int .u32 0)]⟩ := by kernel_rfl
theorem ti_223 : ti Tryz.prog 223 = some ⟨.arr 65 1 false, 65, true, [.val (.int .u8 0), .val (.int .u8 0), .val (.int .u8 0), .val (.int .u8 0), .val (.int .u8 0), .val (.int .u8 0), .val (.int .u8 0), .val (.int .u8 0), .val (.int .u8 0), .val (.int .u8 0), .val (.int .u8 0), .val (.int .u8 0), .val (.int .u8 0), .val (.int .u8 0), .val (.int .u8 0), .val (.int .u8 0), .val (.int .u8 0), .val (.int .u8 0), .val (.int .u8 0), .val (.int .u8 0), .val (.int .u8 0), .val (.int .u8 0), .val (.int .u8 0), .val (.int .u8 0), .val (.int .u8 0), .val (.int .u8 0), .val (.int .u8 0), .val (.int .u8 0), .val (.int .u8 0), .val (.int .u8 0), .val (.int .u8 0), .val (.int .u8 0), .val (.int .u8 0), .val (.int .u8 0), .val (.int .u8 0), .val (.int .u8 0), .val (.int .u8 0), .val (.int .u8 0), .val (.int .u8 0), .val (.int .u8 0), .val (.int .u8 0), .val (.int .u8 0), .val (.int .u8 0), .val (.int .u8 0), .val (.int .u8 0), .val (.int .u8 0), .val (.int .u8 0), .val (.int .u8 0), .val (.int .u8 0), .val (.int .u8 0), .val (.int .u8 0), .val (.int .u8 0), .val (.int .u8 0), .val (.int .u8 0), .val (.int .u8 0), .val (.int .u8 0), .val (.int .u8 0), .val (.int .u8 0), .val (.int .u8 0), .val (.int .u8 0), .val (.int .u8 0), .val (.int .u8 0), .val (.int .u8 0), .val (.int .u8 0), .val (.int .u8 0)]⟩ := by kernel_rfl
theorem ti_225 : ti Tryz.prog 225 = some ⟨.other, 1, false, [.val (.pointer none)]⟩ := by kernel_rfl
theorem ti_231 : ti Tryz.prog 231 = some ⟨.other, 1, false, [.val (.pointer none)]⟩ := by kernel_rfl
theorem ti_232 : ti Tryz.prog 232 = some ⟨.struct [⟨0, 1, false⟩], 1, true, [.val (.string ⟨#[]⟩)]⟩ := by kernel_rfl
theorem ti_233 : ti Tryz.prog 233 = some ⟨.struct [⟨0, 1, false⟩], 1, true, [.val (.string ⟨#[]⟩)]⟩ := by kernel_rfl
theorem ti_236 : ti Tryz.prog 236 = some ⟨.struct [⟨0, 1, false⟩, ⟨1, 1, false⟩], 2, true, [.val (.int .i64 0), .val (.int .i64 0)]⟩ := by kernel_rfl
theorem ti_237 : ti Tryz.prog 237 = some ⟨.struct [⟨0, 1, false⟩, ⟨1, 1, false⟩], 2, true, [.val (.int .i64 0), .val (.int .i64 0)]⟩ := by kernel_rfl
theorem ti_239 : ti Tryz.prog 239 = some ⟨.slice 237 2 16 [.val (.int .i64 0), .val (.int .i64 0)], 1, false, [.nil]⟩ := by kernel_rfl
theorem ti_240 : ti Tryz.prog 240 = some ⟨.arr 8 2 true, 16, true, [.val (.int .i64 0), .val (.int .i64 0), .val (.int .i64 0), .val (.int .i64 0), .val (.int .i64 0), .val (.int .i64 0), .val (.int .i64 0), .val (.int .i64 0), .val (.int .i64 0), .val (.int .i64 0), .val (.int .i64 0), .val (.int .i64 0), .val (.int .i64 0), .val (.int .i64 0), .val (.int .i64 0), .val (.int .i64 0)]⟩ := by kernel_rfl
theorem ti_242 : ti Tryz.prog 242 = some ⟨.arr 4 2 true, 8, true, [.val (.int .i64 0), .val (.int .i64 0), .val (.int .i64 0), .val (.int .i64 0), .val (.int .i64 0), .val (.int .i64 0), .val (.int .i64 0), .val (.int .i64 0)]⟩ := by kernel_rfl
theorem ti_246 : ti Tryz.prog 246 = some ⟨.struct [⟨0, 1, false⟩, ⟨1, 1, false⟩], 2, true, [.val (.int .u8 0), .val (.int .u8 0)]⟩ := by kernel_rfl
theorem ti_247 : ti Tryz.prog 247 = some ⟨.struct [⟨0, 1, false⟩, ⟨1, 1, false⟩], 2, true, [.val (.int .u8 0), .val (.int .u8 0)]⟩ := by kernel_rfl
theorem ti_248 : ti Tryz.prog 248 = some ⟨.arr 16 2 true, 32, true, [.val (.int .u8 0), .val (.int .u8 0), .val (.int .u8 0), .val (.int .u8 0), .val (.int .u8 0), .val (.int .u8 0), .val (.int .u8 0), .val (.int .u8 0), .val (.int .u8 0), .val (.int .u8 0), .val (.int .u8 0), .val (.int .u8 0), .val (.int .u8 0), .val (.int .u8 0), .val (.int .u8 0), .val (.int .u8 0), .val (.int .u8 0), .val (.int .u8 0), .val (.int .u8 0), .val (.int .u8 0), .val (.int .u8 0), .val (.int .u8 0), .val (.int .u8 0), .val (.int .u8 0), .val (.int .u8 0), .val (.int .u8 0), .val (.int .u8 0), .val (.int .u8 0), .val (.int .u8 0), .val (.int .u8 0), .val (.int .u8 0), .val (.int .u8 0)]⟩ := by kernel_rfl
theorem ti_252 : ti Tryz.prog 252 = some ⟨.other, 1, false, [.val .nilFunc]⟩ := by kernel_rfl
theorem ti_254 : ti Tryz.prog 254 = some ⟨.arr 32 1 false, 32, true, [.val (.int .u8 0), .val (.int .u8 0), .val (.int .u8 0), .val (.int .u8 0), .val (.int .u8 0), .val (.int .u8 0), .val (.int .u8 0), .val (.int .u8 0), .val (.int .u8 0), .val (.int .u8 0), .val (.int .u8 0), .val (.int .u8 0), .val (.int .u8 0), .val (.int .u8 0), .val (.int .u8 0), .val (.int .u8 0), .val (.int .u8 0), .val (.int .u8 0), .val (.int .u8 0), .val (.int .u8 0), .val (.int .u8 0), .val (.int .u8 0), .val (.int .u8 0), .val (.int .u8 0), .val (.int .u8 0), .val (.int .u8 0), .val (.int .u8 0), .val (.int .u8 0), .val (.int .u8 0), .val (.int .u8 0), .val (.int .u8 0), .val (.int .u8 0)]⟩ := by kernel_rfl
theorem ti_255 : ti Tryz.prog 255 = some ⟨.arr 64 1 false, 64, true, [.val (.int .u8 0), .val (.int .u8 0), .val (.int .u8 0), .val (.int .u8 0), .val (.int .u8 0), .val (.int .u8 0), .val (.int .u8 0), .val (.int .u8 0), .val (.int .u8 0), .val (.int .u8 0), .val (.int .u8 0), .val (.int .u8 0), .val (.int .u8 0), .val (.int .u8 0), .val (.int .u8 0), .val (.int .u8 0), .val (.int .u8 0), .val (.int .u8 0), .val (.int .u8 0), .val (.int .u8 0), .val (.int .u8 0), .val (.int .u8 0), .val (.int .u8 0), .val (.int .u8 0), .val (.int .u8 0), .val (.int .u8 0), .val (.int .u8 0), .val (.int .u8 0), .val (.int .u8 0), .val (.int .u8 0), .val (.int .u8 0), .val (.int .u8 0), .val (.int .u8 0), .val (.int .u8 0), .val (.int .u8 0), .val (.int .u8 0), .val (.int .u8 0), .val (.int .u8 0), .val (.int .u8 0), .val (.int .u8 0), .val (.int .u8 0), .val (.int .u8 0), .val (.int .u8 0), .val (.int .u8 0), .val (.int .u8 0), .val (.int .u8 0), .val (.int .u8 0), .val (.int .u8 0), .val (.int .u8 0), .val (.int .u8 0), .val (.int .u8 0), .val (.int .u8 0), .val (.int .u8 0), .val (.int .u8 0), .val (.int .u8 0), .val (.int .u8 0), .val (.int .u8 0), .val (.int .u8 0), .val (.int .u8 0), .val (.int .u8 0), .val (.int .u8 0), .val (.int .u8 0), .val (.int .u8 0), .val (.int .u8 0)]⟩ := by kernel_rfl
theorem ti_257 : ti Tryz.prog 257 = some ⟨.struct [⟨0, 1, false⟩, ⟨1, 1, false⟩, ⟨2, 1, false⟩, ⟨3, 1, false⟩], 4, true, [.val (.pointer none), .val (.pointer none), .val (.pointer none), .val (.string ⟨#[]⟩)]⟩ := by kernel_rfl
theorem ti_258 : ti Tryz.prog 258 = some ⟨.struct [⟨0, 1, false⟩, ⟨1, 1, false⟩, ⟨2, 1, false⟩, ⟨3, 1, false⟩], 4, true, [.val (.pointer none), .val (.pointer none), .val (.pointer none), .val (.string ⟨#[]⟩)]⟩ := by kernel_rfl
theorem ti_259 : ti Tryz.prog 259 = some ⟨.arr 0 1 false, 0, true, []⟩ := by kernel_rfl
theorem ti_260 : ti Tryz.prog 260 = some ⟨.struct [⟨0, 0, true⟩], 0, true, []⟩ := by kernel_rfl
theorem ti_261 : ti Tryz.prog 261 = some ⟨.struct [⟨0, 0, true⟩], 0, true, []⟩ := by kernel_rfl
theorem ti_263 : ti Tryz.prog 263 = some ⟨.int .u8, 1, false, [.val (.int .u8 0)]⟩ := by kernel_rfl
theorem ti_264 : ti Tryz.prog 264 = some ⟨.int .u8, 1, false, [.val (.int .u8 0)]⟩ := by kernel_rfl
theorem ti_266 : ti Tryz.prog 266 = some ⟨.int .i32, 1, false, [.val (.int .i32 0)]⟩ := by kernel_rfl
theorem ti_267 : ti Tryz.prog 267 = some ⟨.int .i32, 1, false, [.val (.int .i32 0)]⟩ := by kernel_rfl
theorem ti_268 : ti Tryz.prog 268 = some ⟨.struct [⟨0, 1, false⟩, ⟨1, 1, false⟩, ⟨2, 1, false⟩, ⟨3, 1, false⟩, ⟨4, 1, false⟩, ⟨5, 1, false⟩, ⟨6, 1, false⟩, ⟨7, 1, false⟩, ⟨8, 1, false⟩, ⟨9, 1, false⟩, ⟨10, 1, false⟩], 11, true, [.val (.int .u64 0), .val (.int .u64 0), .val (.int .u32 0), .val (.int .u8 0), .val (.int .u8 0), .val (.int .u8 0), .val (.int .u8 0), .val .nilFunc, .val (.pointer none), .val (.int .i32 0), .val (.int .i32 0)]⟩ := by kernel_rfl
theorem ti_269 : ti Tryz.prog 269 = some ⟨.struct [⟨0, 1, false⟩, ⟨1, 1, false⟩, ⟨2, 1, false⟩, ⟨3, 1, false⟩, ⟨4, 1, false⟩, ⟨5, 1, false⟩, ⟨6, 1, false⟩, ⟨7, 1, false⟩, ⟨8, 1, false⟩, ⟨9, 1, false⟩, ⟨10, 1, false⟩], 11, true, [.val (.int .u64 0), .val (.int .u64 0), .val (.int .u32 0), .val (.int .u8 0), .val (.int .u8 0), .val (.int .u8 0), .val (.int .u8 0), .val .nilFunc, .val (.pointer none), .val (.int .i32 0), .val (.int .i32 0)]⟩ := by kernel_rfl
theorem cm_23 : cmpT Tryz.prog 23 = some [.i .i64, .i .i64] := by kernel_rfl
theorem cm_54 : cmpT Tryz.prog 54 = some [.i .i64, .i .i64, .i .i64, .b] := by kernel_rfl
theorem cm_85 : cmpT Tryz.prog 85 = some [.i .i64, .i .i64] := by kernel_rfl
theorem cm_91 : cmpT Tryz.prog 91 = some [.i .u8, .s, .b, .i .i64, .i .i64] := by kernel_rfl
theorem cm_179 : cmpT Tryz.prog 179 = some [.i .u8, .i .i64, .s] := by kernel_rfl
theorem cm_237 : cmpT Tryz.prog 237 = some [.i .i64, .i .i64] := by kernel_rfl
end E
end
section
namespace E
section
variable {P : Program} {w : World} {G : Nat → Prop} {η : Nat → Option Value}
theorem one_of_oneV : ∀ {v : Value}, oneV v = true → One v
  | .agg _, h => by simp [oneV] at h
  | .tuple _, h => by simp [oneV] at h
  | .bool _, _ | .int _ _, _ | .float _ _, _ | .complex _ _ _, _ | .string _, _ | .pointer _, _ | .slice _ _ _, _ | .map _, _ | .chan _, _ | .func _ _ _, _ | .nilFunc, _ | .iface _ _, _ | .nilIface, _ => rfl
theorem one_of_cell1 : ∀ {a : AV} {v : Value}, cell1 a = true → Rep w G η a v → One v
  | .val u, v, h, r => by
    have : v = u := r
    subst this
    exact one_of_oneV h
  | .nil, v, _, r => by
    have : v = .slice none 0 0 := r
    subst this; rfl
  | .lst _, v, _, r => by
    obtain ⟨_, _, _, _, rfl, _⟩ := r
    rfl
  | .elm _ _, v, _, r => by
    obtain ⟨_, _, rfl, _⟩ := r
    rfl
  | .ref _ _, v, _, r => by
    obtain ⟨_, _, rfl⟩ := r
    rfl
  | .rel _ _ _ _, v, _, r => by
    obtain ⟨_, _, _, _, rfl⟩ := r
    rfl
  | .own _, v, _, r => by
    obtain ⟨_, _, _, _, rfl⟩ := r
    rfl
  | .agg _, _, h, _ => by simp [cell1] at h
  | .tup _, _, h, _ => by simp [cell1] at h
  | .fn _ _ _, v, _, r => by
    obtain ⟨_, _, rfl, _⟩ := r
    rfl
  | .top, _, h, _ => by simp [cell1] at h
theorem rep_ofC (v : Value) : Rep w G η (ofC v) v := by
  unfold ofC
  split
  · rfl
  · rfl
theorem repC_ofC : ∀ (l : List Value), (l.all oneV) = true → RepC w G η (l.map ofC) l
  | [], _ => trivial
  | v :: l, h => by
    simp only [List.all_cons, Bool.and_eq_true] at h
    exact ⟨⟨one_of_oneV h.1, rep_ofC v⟩, repC_ofC l h.2⟩
theorem rep_ofV (v : Value) : Rep w G η (ofV v) v := by
  unfold ofV
  split
  · rfl
  · rename_i cs
    split
    · exact ⟨cs.toList, by simp, repC_ofC _ ‹_›⟩
    · trivial
  · rfl
theorem pure1_eq {a r : AV} {u : Upd} (h : pure1 a = some (r, u)) : r = a ∧ u = .none := by
  simp only [pure1, Option.some.injEq, Prod.mk.injEq] at h
  exact ⟨h.1.symm, h.2.symm⟩
theorem eqGuard_int (op : BinOp) (t : TypeId) (x y : Operand) (k k' : IntKind) (a b : Int) : (eqGuard op t x y (.int k a) (.int k' b)).run P w = .ok () w := by
  unfold eqGuard
  split <;> rfl
theorem eqGuard_str (op : BinOp) (t : TypeId) (x y : Operand) (a b : ByteArray) : (eqGuard op t x y (.string a) (.string b)).run P w = .ok () w := by
  unfold eqGuard
  split <;> rfl
theorem eqGuard_bool (op : BinOp) (t : TypeId) (x y : Operand) (a b : Bool) : (eqGuard op t x y (.bool a) (.bool b)).run P w = .ok () w := by
  unfold eqGuard
  split <;> rfl
theorem str_eq (a b : ByteArray) : (a.toList == b.toList) = decide (a = b) := by
  rw [ByteArray.toList_eq, ByteArray.toList_eq, Bool.eq_iff_iff]
  simp only [beq_iff_eq, decide_eq_true_eq]
  exact ⟨fun h => ByteArray.ext (Array.ext' h), fun h => by rw [h]⟩
theorem equal_bool {t : TypeId} (hu : P.underlying t = some .bool) (a b : Bool) : (Op.equal t (.bool a) (.bool b)).run P w = .ok (a == b) w := by
  unfold Op.equal
  obtain ⟨d, hd⟩ : ∃ d, Op.maxDepth = d + 1 := ⟨9999, rfl⟩
  rw [hd]
  unfold Op.equalIn
  simp only [Sem.run_bind, run_underlying hu, Result.andThen_ok, Sem.run_pure]
def Yd (P : Program) (w : World) (G : Nat → Prop) (η : Nat → Option Value) (r : AV) (u : Upd) (m : Sem Value) : Prop := u = .none ∧ ∃ v, m.run P w = .ok v w ∧ Rep w G η r v
theorem yd_val {r : AV} {u : Upd} {v x : Value} {m : Sem Value} (h : pure1 (.val x) = some (r, u)) (hm : m.run P w = .ok v w) (hx : v = x) : Yd P w G η r u m := by
  obtain ⟨rfl, rfl⟩ := pure1_eq h
  exact ⟨rfl, v, hm, hx⟩
theorem ti_parts {t : TypeId} {x : TI} (h : ti P t = some x) : ∃ i u z, P.info? t = some i ∧ P.underlying t = some u ∧ i.zero = some z ∧ z.cells.toList.all oneV = true ∧ z.cells.size = i.size ∧ x = ⟨td P u, i.size, aggD u, z.cells.toList.map ofC⟩ := by
  unfold ti at h
  split at h
  · rename_i i u hi hu
    split at h
    · rename_i z hz
      split at h
      · rename_i hc
        simp only [Bool.and_eq_true, beq_iff_eq] at hc
        simp only [Option.some.injEq] at h
        exact ⟨i, u, z, hi, hu, hz, hc.1, hc.2, h.symm⟩
      · simp at h
    · simp at h
  · simp at h
theorem ti_bool {t : TypeId} {a b c} (h : ti P t = some ⟨.bool, a, b, c⟩) : P.underlying t = some .bool := by
  obtain ⟨i, u, z, hi, hu, hz, h1, h2, h3⟩ := ti_parts h
  simp only [TI.mk.injEq] at h3
  rw [hu]
  have h4 := h3.1
  unfold td at h4
  split at h4 <;> first | rfl | (simp at h4; done) | skip
  all_goals (split at h4 <;> first | (simp at h4; done) | skip)
  all_goals (split at h4 <;> first | (simp at h4; done) | skip)
  all_goals (split at h4 <;> first | (simp at h4; done) | skip)
theorem ti_str {t : TypeId} {a b c} (h : ti P t = some ⟨.str, a, b, c⟩) : P.underlying t = some .string := by
  obtain ⟨i, u, z, hi, hu, hz, h1, h2, h3⟩ := ti_parts h
  simp only [TI.mk.injEq] at h3
  rw [hu]
  have h4 := h3.1
  unfold td at h4
  split at h4 <;> first | rfl | (simp at h4; done) | skip
  all_goals (split at h4 <;> first | (simp at h4; done) | skip)
  all_goals (split at h4 <;> first | (simp at h4; done) | skip)
  all_goals (split at h4 <;> first | (simp at h4; done) | skip)
theorem ti_int {t : TypeId} {k a b c} (h : ti P t = some ⟨.int k, a, b, c⟩) : P.underlying t = some (.int k) := by
  obtain ⟨i, u, z, hi, hu, hz, h1, h2, h3⟩ := ti_parts h
  simp only [TI.mk.injEq] at h3
  rw [hu]
  have h4 := h3.1
  unfold td at h4
  split at h4 <;> first | (simp at h4; rw [h4]; done) | (simp at h4; done) | skip
  all_goals (split at h4 <;> first | (simp at h4; done) | skip)
  all_goals (split at h4 <;> first | (simp at h4; done) | skip)
  all_goals (split at h4 <;> first | (simp at h4; done) | skip)
theorem ti_slice {t : TypeId} {e es by' z0 a b c} (h : ti P t = some ⟨.slice e es by' z0, a, b, c⟩) : P.underlying t = some (.slice e) ∧
    ∃ i z, P.info? e = some i ∧ i.zero = some z ∧ z.cells.toList.all oneV = true ∧ z.cells.size = es ∧ i.size = es ∧ i.bytes = by' ∧ 0 < es ∧ z.cells.toList.map ofC = z0 := by
  obtain ⟨i, u, z, hi, hu, hz, h1, h2, h3⟩ := ti_parts h
  simp only [TI.mk.injEq] at h3
  rw [hu]
  have h4 := h3.1
  unfold td at h4
  split at h4 <;> first | (simp at h4; done) | skip
  · split at h4
    · rename_i e' i' hi'
      split at h4
      · rename_i z' hz'
        split at h4
        · rename_i hc
          simp only [Bool.and_eq_true, beq_iff_eq, decide_eq_true_eq] at hc
          simp only [TD.slice.injEq] at h4
          obtain ⟨rfl, rfl, rfl, rfl⟩ := h4
          exact ⟨rfl, i', z', hi', hz', hc.1.1, hc.1.2, rfl, rfl, hc.2, rfl⟩
        · simp at h4
      · simp at h4
    · simp at h4
  · split at h4 <;> simp at h4
  · split at h4 <;> simp at h4
theorem nilOf_spec {x : AV} {xv : Value} {b : Bool} (h : nilOf x = some b) (hx : Rep w G η x xv) : ∃ o n c, xv = .slice o n c ∧ b = o.isNone := by
  unfold nilOf at h
  split at h
  · simp only [Option.some.injEq] at h
    exact ⟨none, 0, 0, hx, h.symm⟩
  · simp only [Option.some.injEq] at h
    obtain ⟨a, n, c, es', h1, _, _, _, _, h2⟩ := hx
    rcases h2 with h2 | ⟨b, o, rfl, _⟩
    · cases h2
    · exact ⟨_, n, c, h1, h.symm⟩
  · simp only [Option.some.injEq] at h
    exact ⟨_, _, _, hx, h.symm⟩
  · simp at h
theorem sound_bin {op : BinOp} {x y r : AV} {u : Upd} {xv yv : Value} {t : TypeId} {ox oy : Operand} (h : aBin (ti P t) op x y = some (r, u)) (hx : Rep w G η x xv) (hy : Rep w G η y yv) :
    Yd P w G η r u (do eqGuard op t ox oy xv yv; binOp op t xv yv) := by
  unfold aBin at h
  split at h
  · rename_i k a k' b
    obtain rfl : xv = .int k a := hx
    obtain rfl : yv = .int k' b := hy
    split at h
    · rename_i hk
      have hg := eqGuard_int (P := P) (w := w) op t ox oy k k' a b
      cases op <;> simp only [reduceCtorEq, or_self, or_false, false_or, or_true, true_or, vI, vB] at h hk
      case shl | shr =>
        split at h
        · simp at h
        · refine yd_val h ?_ rfl
          simp only [Sem.run_bind, hg, Result.andThen_ok]
          simp [binOp, Op.shift, *]
      all_goals subst hk
      case quo | rem =>
        split at h
        · simp at h
        · refine yd_val h ?_ rfl
          simp only [Sem.run_bind, hg, Result.andThen_ok]
          simp [binOp, Op.intDiv, *]
      all_goals
        refine yd_val h ?_ rfl
        simp only [Sem.run_bind, hg, Result.andThen_ok]
        first | rfl | simp [binOp, Op.intArith, Op.intBits, Op.intCmp, bitsOf]
    · simp at h
  · rename_i a b
    obtain rfl : xv = .string a := hx
    obtain rfl : yv = .string b := hy
    have hg := eqGuard_str (P := P) (w := w) op t ox oy a b
    split at h
    · split at h
      · refine yd_val h ?_ rfl
        simp only [Sem.run_bind, hg, Result.andThen_ok]
        have : ¬ ((a.size + b.size : Nat) : Int) > IntKind.i64.max := by
          have : IntKind.i64.max = 9223372036854775807 := by decide
          unfold maxS at *
          omega
        simp only [binOp, Op.stringOp, this, if_false, Sem.run_pure]
      · simp at h
    · refine yd_val h ?_ rfl
      simp only [Sem.run_bind, hg, Result.andThen_ok]
      simp [binOp, Op.stringOp, str_eq]
    · refine yd_val h ?_ rfl
      simp only [Sem.run_bind, hg, Result.andThen_ok]
      simp only [binOp, Op.stringOp, str_eq, Sem.run_pure]
    · simp at h
  · rename_i a b
    obtain rfl : xv = .bool a := hx
    obtain rfl : yv = .bool b := hy
    have hg := eqGuard_bool (P := P) (w := w) op t ox oy a b
    split at h
    · rename_i hb
      have hu := ti_bool hb
      split at h
      · refine yd_val h ?_ rfl
        simp only [Sem.run_bind, hg, Result.andThen_ok]
        simp only [binOp, Sem.run_bind, equal_bool hu, Result.andThen_ok, Sem.run_pure]
      · refine yd_val h ?_ rfl
        simp only [Sem.run_bind, hg, Result.andThen_ok]
        simp only [binOp, Sem.run_bind, equal_bool hu, Result.andThen_ok, Sem.run_pure]
        rfl
      · simp at h
    · simp at h
  · obtain rfl : yv = .slice none 0 0 := hy
    split at h
    · rename_i bb ht hb
      obtain ⟨hu, _⟩ := ti_slice ht
      obtain ⟨o, n, c, rfl, rfl⟩ := nilOf_spec hb hx
      have hg : ∀ op, (eqGuard op t ox oy (.slice o n c) (.slice none 0 0)).run P w = .ok () w := fun op => by cases op <;> rfl
      split at h
      · refine yd_val h ?_ rfl
        simp only [Sem.run_bind, hg, Result.andThen_ok]
        exact Lib.run_eql_slice_nil w _ _ _ _ _ _ _ hu
      · refine yd_val h ?_ rfl
        simp only [Sem.run_bind, hg, Result.andThen_ok]
        exact run_neq_slice_nil_any w _ _ _ _ _ _ _ hu
      · simp at h
    · simp at h
  · simp at h
theorem fits_repC : ∀ (ks : List LK) (az : List AV) (vs : List Value), fitsA ks az = true → RepC w G η az vs → fits ks vs = true
  | [], [], [], _, _ => rfl
  | [], [], _ :: _, _, h => h.elim
  | [], _ :: _, _, h, _ => by simp [fitsA] at h
  | _ :: _, [], _, h, _ => by simp [fitsA] at h
  | _ :: _, _ :: _, [], _, h => h.elim
  | k :: ks, a :: az, v :: vs, h, hr => by
    simp only [fitsA, Bool.and_eq_true] at h
    have ih := fits_repC ks az vs h.2 hr.2
    have h1 := h.1
    have hv := hr.1.2
    simp only [fits, Bool.and_eq_true]
    refine ⟨?_, ih⟩
    unfold LK.fitA at h1
    split at h1
    · obtain rfl := hv; rfl
    · obtain rfl := hv; exact h1
    · obtain rfl := hv; rfl
    · cases h1
theorem eq_repC : ∀ (ks : List LK) (az bs : List AV) (vs ws : List Value), fitsA ks az = true → fitsA ks bs = true → RepC w G η az vs → RepC w G η bs ws → eqA az bs = eqVs vs ws
  | [], [], [], [], [], _, _, _, _ => rfl
  | [], [], [], _ :: _, _, _, _, h, _ => h.elim
  | [], [], [], [], _ :: _, _, _, _, h => h.elim
  | [], [], _ :: _, _, _, _, h, _, _ => by simp [fitsA] at h
  | [], _ :: _, _, _, _, h, _, _, _ => by simp [fitsA] at h
  | _ :: _, [], _, _, _, h, _, _, _ => by simp [fitsA] at h
  | _ :: _, _ :: _, [], _, _, _, h, _, _ => by simp [fitsA] at h
  | _ :: _, _ :: _, _ :: _, [], _, _, _, h, _ => h.elim
  | _ :: _, _ :: _, _ :: _, _ :: _, [], _, _, _, h => h.elim
  | k :: ks, a :: az, b :: bs, v :: vs, u :: us, h, h', hr, hr' => by
    simp only [fitsA, Bool.and_eq_true] at h h'
    have ih := eq_repC ks az bs vs us h.2 h'.2 hr.2 hr'.2
    have h1 := h.1
    have h2 := h'.1
    have hv := hr.1.2
    have hu := hr'.1.2
    simp only [eqA, eqVs, ih]
    congr 1
    unfold LK.fitA at h1
    split at h1
    · obtain rfl := hv
      unfold LK.fitA at h2
      split at h2
      · obtain rfl := hu; rfl
      · contradiction
      · contradiction
      · cases h2
    · obtain rfl := hv
      unfold LK.fitA at h2
      split at h2
      · contradiction
      · obtain rfl := hu; rfl
      · contradiction
      · cases h2
    · obtain rfl := hv
      unfold LK.fitA at h2
      split at h2
      · contradiction
      · contradiction
      · obtain rfl := hu; rfl
      · cases h2
    · cases h1
theorem sound_binT {op : BinOp} {x y r : AV} {u : Upd} {xv yv : Value} {t : TypeId} {ox oy : Operand} (h : aBinT (cmpT P t) (ti P t) op x y = some (r, u)) (hx : Rep w G η x xv) (hy : Rep w G η y yv) :
    Yd P w G η r u (do eqGuard op t ox oy xv yv; binOp op t xv yv) := by
  unfold aBinT at h
  split at h
  · rename_i xs ys
    unfold aEqA at h
    split at h
    · rename_i ks hk
      split at h
      · rename_i hf
        rw [Bool.and_eq_true] at hf
        obtain ⟨vs, rfl, hvs⟩ := hx
        obtain ⟨us, rfl, hus⟩ := hy
        have f1 := fits_repC ks xs vs hf.1 hvs
        have f2 := fits_repC ks ys us hf.2 hus
        have he := eq_repC ks xs ys vs us hf.1 hf.2 hvs hus
        split at h
        · refine yd_val h ?_ rfl
          rw [he]
          exact cmp_eql hk w f1 f2 ox oy false
        · refine yd_val h ?_ rfl
          rw [he]
          exact cmp_eql hk w f1 f2 ox oy true
        · cases h
      · cases h
    · cases h
  · exact sound_bin h hx hy
theorem sound_un {op : UnOp} {x r : AV} {u : Upd} {xv : Value} (h : aUn op x = some (r, u)) (hx : Rep w G η x xv) : Yd P w G η r u (Op.unary op xv) := by
  unfold aUn at h
  split at h
  · rename_i k a
    obtain rfl : xv = .int k a := hx
    split at h
    · exact yd_val h rfl rfl
    · simp at h
  · rename_i b
    obtain rfl : xv = .bool b := hx
    split at h
    · exact yd_val h rfl rfl
    · simp at h
  · simp at h
end
end E
end
section
namespace E
section
variable {P : Program} {w : World} {G : Nat → Prop} {η : Nat → Option Value}
theorem nth_eq {α : Type} : ∀ (i : Nat) (l : List α), nth i l = l[i]?
  | _, [] => by simp [nth]
  | 0, a :: l => rfl
  | i + 1, a :: l => by simpa [nth] using nth_eq i l
theorem run_isAgg {t : TypeId} {u : TypeDesc} (hu : P.underlying t = some u) (w : World) : (isAgg t).run P w = .ok (aggD u) w := by
  unfold isAgg
  simp only [Sem.run_bind, run_underlying hu, Result.andThen_ok]
  cases u <;> rfl
theorem run_sizeOf {t : TypeId} {i : TypeInfo} (hi : P.info? t = some i) (w : World) : (sizeOf t).run P w = .ok i.size w := by
  simp only [sizeOf, typeInfo, Sem.run_bind, run_program, Result.andThen_ok, hi, Sem.run_pure]
theorem repC_len : ∀ {cs : List AV} {vs : List Value}, RepC w G η cs vs → cs.length = vs.length
  | [], [], _ => rfl
  | [], _ :: _, h => h.elim
  | _ :: _, [], h => h.elim
  | _ :: cs, _ :: vs, h => congrArg (· + 1) (repC_len (cs := cs) (vs := vs) h.2)
theorem rd_repC : ∀ {off n : Nat} {cs l : List AV} {vs : List Value}, rd off n cs = some l → RepC w G η cs vs → RepC w G η l ((vs.drop off).take n) ∧ l.length = n
  | 0, 0, cs, l, vs, h, r => by
    simp only [rd, Option.some.injEq] at h
    subst h
    simp [RepC]
  | 0, n + 1, [], l, vs, h, r => by simp [rd] at h
  | 0, n + 1, c :: cs, l, [], h, r => r.elim
  | 0, n + 1, c :: cs, l, v :: vs, h, r => by
    simp only [rd] at h
    split at h
    · rename_i l' hl
      simp only [Option.some.injEq] at h
      subst h
      have := rd_repC hl r.2
      simp only [List.drop_zero, List.take_succ_cons] at this ⊢
      exact ⟨⟨r.1, this.1⟩, by simp [this.2]⟩
    · simp at h
  | o + 1, n, [], l, vs, h, r => by simp [rd] at h
  | o + 1, n, c :: cs, l, [], h, r => r.elim
  | o + 1, n, c :: cs, l, v :: vs, h, r => by
    simp only [rd] at h
    simpa using rd_repC h r.2
theorem rd_row : ∀ {off n : Nat} {cs l : List AV} {b o : Nat}, rd off n cs = some l → RepRow w G cs b o →
    ∃ us : List Value, RepC w G no l us ∧ us.length = n ∧ ∀ j u, us[j]? = some u → w.cell? ⟨b, o + off + j, none⟩ = some u
  | 0, 0, cs, l, b, o, h, r => by
    simp only [rd, Option.some.injEq] at h
    subst h
    exact ⟨[], trivial, rfl, by simp⟩
  | 0, n + 1, [], l, b, o, h, r => by simp [rd] at h
  | 0, n + 1, c :: cs, l, b, o, h, r => by
    simp only [rd] at h
    split at h
    · rename_i l' hl
      simp only [Option.some.injEq] at h
      subst h
      obtain ⟨⟨u, h1, h2, h3⟩, h4⟩ := r
      obtain ⟨us, k1, k2, k3⟩ := rd_row hl h4
      refine ⟨u :: us, ⟨⟨h2, h3⟩, k1⟩, by simp [k2], fun j x hx => ?_⟩
      cases j with
      | zero =>
        simp only [List.getElem?_cons_zero, Option.some.injEq] at hx
        subst hx
        exact h1
      | succ j =>
        simp only [List.getElem?_cons_succ] at hx
        have := k3 j x hx
        rwa [show o + 0 + (j + 1) = o + 1 + 0 + j by omega]
    · simp at h
  | f + 1, n, [], l, b, o, h, r => by simp [rd] at h
  | f + 1, n, c :: cs, l, b, o, h, r => by
    simp only [rd] at h
    obtain ⟨us, k1, k2, k3⟩ := rd_row h r.2
    refine ⟨us, k1, k2, fun j x hx => ?_⟩
    have := k3 j x hx
    rwa [show o + (f + 1) + j = o + 1 + f + j by omega]
theorem repC_up0 {cs : List AV} {vs : List Value} (h : RepC w G no cs vs) : RepC w G η cs vs := RepC.up (fun b hb => ⟨hb, rfl⟩) (fun _ _ h => by simp [no] at h) cs vs h
def packV (agg : Bool) (us : List Value) : Value := if agg then .agg us.toArray else us.getD 0 undef
theorem pack_rep {ag : Bool} {l : List AV} {v : AV} {us : List Value} (h : pack ag l = some v) (r : RepC w G η l us) : Rep w G η v (packV ag us) ∧ (ag = false → us.length = 1) := by
  unfold pack at h
  cases ag
  case true =>
    simp only [if_true, Option.some.injEq] at h
    subst h
    exact ⟨⟨us, rfl, r⟩, fun h => by simp at h⟩
  case false =>
    simp only [Bool.false_eq_true, if_false] at h
    split at h
    · rename_i c
      simp only [Option.some.injEq] at h
      subst h
      match us, r with
      | [u], r => exact ⟨r.1.2, fun _ => rfl⟩
      | [], r => exact r.elim
      | _ :: _ :: _, r => exact r.2.elim
    · simp at h
theorem run_part {t : TypeId} {i : TypeInfo} {u : TypeDesc} (hi : P.info? t = some i) (hu : P.underlying t = some u) (vs : List Value) (off : Nat) (w : World) (h1 : aggD u = false → ((vs.drop off).take i.size).length = 1) (h2 : aggD u = false → i.size = 1) :
    (part t vs.toArray off).run P w = .ok (packV (aggD u) ((vs.drop off).take i.size)) w := by
  unfold part
  simp only [Sem.run_bind, run_isAgg hu, Result.andThen_ok]
  cases hg : aggD u
  · have h2' := h2 hg
    have h3 := h1 hg
    rw [h2'] at h3 ⊢
    simp only [Bool.false_eq_true, if_false]
    have hlt : off < vs.length := by simp at h3; omega
    simp only [List.getElem?_toArray, List.getElem?_eq_getElem hlt, Sem.run_pure, packV, Bool.false_eq_true, if_false]
    congr 1
    rw [List.drop_eq_getElem_cons hlt]
    rfl
  · simp only [if_true, Sem.run_bind, run_sizeOf hi, Result.andThen_ok, Sem.run_pure, packV]
    congr 2
    apply Array.ext'
    simp [List.drop_take]
theorem fi_parts {f : Field} {x : FI} (h : fi P f = some x) : ∃ i u, P.info? f.type = some i ∧ P.underlying f.type = some u ∧ x = ⟨f.offset, i.size, aggD u⟩ := by
  unfold fi at h
  split at h
  · simp only [Option.some.injEq] at h
    exact ⟨_, _, ‹_›, ‹_›, h.symm⟩
  · simp at h
theorem mapM_nth {α β : Type} (g : α → Option β) : ∀ (l : List α) (r : List β), l.mapM g = some r → ∀ (i : Nat) (x : β), (r[i]? : Option β) = some x → ∃ y, l[i]? = some y ∧ g y = some x
  | [], r, h, i, x, hx => by simp at h; subst h; simp at hx
  | a :: l, r, h, i, x, hx => by
    simp only [List.mapM_cons, Option.bind_eq_bind, Option.bind_eq_some_iff, Option.pure_def, Option.some.injEq] at h
    obtain ⟨b, hb, r', hr, rfl⟩ := h
    cases i with
    | zero =>
      simp only [List.getElem?_cons_zero, Option.some.injEq] at hx
      subst hx
      exact ⟨a, rfl, hb⟩
    | succ i => simpa using mapM_nth g l r' hr i x (by simpa using hx)
theorem ti_struct {t : TypeId} {fs a b c} (h : ti P t = some ⟨.struct fs, a, b, c⟩) : ∃ gs : Array Field, P.underlying t = some (.struct gs) ∧ gs.toList.mapM (fi P) = some fs := by
  obtain ⟨i, u, z, hi, hu, hz, h1, h2, h3⟩ := ti_parts h
  simp only [TI.mk.injEq] at h3
  rw [hu]
  have h4 := h3.1
  unfold td at h4
  split at h4 <;> first | (simp at h4; done) | skip
  · split at h4 <;> first | (simp at h4; done) | skip
    split at h4 <;> first | (simp at h4; done) | skip
    split at h4 <;> simp at h4
  · split at h4 <;> simp at h4
  · rename_i gs
    split at h4
    · rename_i l hl
      simp only [TD.struct.injEq] at h4
      subst h4
      exact ⟨gs, rfl, hl⟩
    · simp at h4
theorem ti_arr {t : TypeId} {n es ag a b c} (h : ti P t = some ⟨.arr n es ag, a, b, c⟩) : ∃ e i u, P.underlying t = some (.array n e) ∧ P.info? e = some i ∧ P.underlying e = some u ∧ es = i.size ∧ ag = aggD u := by
  obtain ⟨i, u, z, hi, hu, hz, h1, h2, h3⟩ := ti_parts h
  simp only [TI.mk.injEq] at h3
  rw [hu]
  have h4 := h3.1
  unfold td at h4
  split at h4 <;> first | (simp at h4; done) | skip
  · split at h4 <;> first | (simp at h4; done) | skip
    split at h4 <;> first | (simp at h4; done) | skip
    split at h4 <;> simp at h4
  · split at h4
    · simp only [TD.arr.injEq] at h4
      obtain ⟨rfl, rfl, rfl⟩ := h4
      exact ⟨_, _, _, rfl, ‹_›, ‹_›, rfl, rfl⟩
    · simp at h4
  · split at h4 <;> simp at h4
theorem field_at {t : TypeId} {fs : List FI} {gs : Array Field} {f : Nat} {x : FI} (hm : gs.toList.mapM (fi P) = some fs) (hx : nth f fs = some x) :
    ∃ g i u, gs[f]? = some g ∧ P.info? g.type = some i ∧ P.underlying g.type = some u ∧ x = ⟨g.offset, i.size, aggD u⟩ := by
  rw [nth_eq] at hx
  obtain ⟨g, hg, hf⟩ := mapM_nth _ _ _ hm f x hx
  obtain ⟨i, u, h1, h2, h3⟩ := fi_parts hf
  exact ⟨g, i, u, by simpa using hg, h1, h2, h3⟩
theorem take_len {n : Nat} {l : List AV} {us : List Value} (h : RepC w G η l us) (hl : l.length = n) : us.length = n := by rw [← hl, repC_len h]
theorem sound_field {t : TypeId} {f : Nat} {x r : AV} {u : Upd} {xv : Value} (h : aField (ti P t) f x = some (r, u)) (hx : Rep w G η x xv) : Yd P w G η r u (Instr.field t xv f) := by
  unfold aField at h
  split at h
  · rename_i fs _ _ _ cs ht
    obtain ⟨gs, hu, hm⟩ := ti_struct ht
    split at h
    · rename_i fd hf
      obtain ⟨g, i, v, hg, hi, hv, rfl⟩ := field_at (t := t) hm hf
      split at h
      · rename_i l hl
        split at h
        · rename_i a ha
          obtain ⟨rfl, rfl⟩ := pure1_eq h
          obtain ⟨vs, rfl, hr⟩ := hx
          obtain ⟨h1, h2⟩ := rd_repC hl hr
          obtain ⟨k1, k2⟩ := pack_rep ha h1
          refine ⟨rfl, _, ?_, k1⟩
          simp only [Instr.field, Sem.run_bind, run_underlying hu, Result.andThen_ok, hg, asAgg, Sem.run_pure]
          exact run_part hi hv vs g.offset w k2 (fun hg => by have := k2 hg; rw [take_len h1 h2] at this; exact this)
        · simp at h
      · simp at h
    · simp at h
  · simp at h
theorem sound_extract {vs : List AV} {i : Nat} {r v : AV} {u : Upd} {xv : Value} (h : nth i vs = some v) (hp : pure1 v = some (r, u)) (hx : Rep w G η (.tup vs) xv) : Yd P w G η r u (Instr.extract xv i) := by
  obtain ⟨rfl, rfl⟩ := pure1_eq hp
  obtain ⟨us, rfl, hr⟩ := hx
  rw [nth_eq] at h
  have : ∀ (vs : List AV) (us : List Value) (i : Nat), RepL w G η vs us → vs[i]? = some r → ∃ x, us[i]? = some x ∧ Rep w G η r x := by
    intro vs
    induction vs with
    | nil => intro us i _ h; simp at h
    | cons a vs ih =>
      intro us i hr h
      match us, hr with
      | [], hr => exact hr.elim
      | x :: us, hr =>
        cases i with
        | zero =>
          simp only [List.getElem?_cons_zero, Option.some.injEq] at h
          subst h
          exact ⟨x, rfl, hr.1⟩
        | succ i => simpa using ih us i hr.2 (by simpa using h)
  obtain ⟨x, hx, hr⟩ := this vs us i hr h
  exact ⟨rfl, x, by simp [Instr.extract, hx], hr⟩
theorem sound_conv {s t : TypeId} {x r : AV} {u : Upd} {xv : Value} (h : aConv (ti P s) (ti P t) x = some (r, u)) (hx : Rep w G η x xv) : Yd P w G η r u (convert s t xv) := by
  unfold aConv at h
  split at h
  · rename_i k n
    obtain rfl : xv = .int k n := hx
    split at h
    · rename_i h1 h2
      refine yd_val h ?_ rfl
      simp only [convert, Sem.run_bind, run_underlying (ti_int h1), run_underlying (ti_int h2), Result.andThen_ok]
      rfl
    · simp at h
  · rename_i b
    obtain rfl : xv = .string b := hx
    split at h
    · rename_i h1 h2
      refine yd_val h ?_ rfl
      simp only [convert, Sem.run_bind, run_underlying (ti_str h1), run_underlying (ti_str h2), Result.andThen_ok]
      rfl
    · simp at h
  · simp at h
theorem sound_mm {b : Builtin} {ts : Array TypeId} {t : TypeId} {x y r : AV} {u : Upd} {xv yv : Value} (h : mm b x y = some (r, u)) (hx : Rep w G η x xv) (hy : Rep w G η y yv) :
    (b = .max → Yd P w G η r u (Builtin.max_ ts t #[xv, yv])) ∧ (b = .min → Yd P w G η r u (Builtin.min_ ts t #[xv, yv])) := by
  unfold mm at h
  split at h
  · rename_i k a k' c
    obtain rfl : xv = .int k a := hx
    obtain rfl : yv = .int k' c := hy
    split at h
    · rename_i hk
      subst hk
      split at h
      · exact ⟨fun _ => yd_val h (by simp [Builtin.max_, Builtin.max2]) rfl, fun e => by simp at e⟩
      · exact ⟨fun e => by simp at e, fun _ => yd_val h (by simp [Builtin.min_, Builtin.min2]) rfl⟩
      · simp at h
    · simp at h
  · simp at h
end
end E
end
section
namespace E
section
variable {P : Program} {w w' : World} {B : Nat} {G : Nat → Prop} {η : Nat → Option Value} {hp : Hp}
theorem look_hset : ∀ (k j : Nat) (b : Blk) (h : Hp), look j (hset k b h) = if j = k then some b else look j h
  | k, j, b, [] => by
    simp only [hset, look, beq_iff_eq]
    by_cases h : j = k
    · subst h; simp
    · rw [if_neg h, if_neg (fun e => h e.symm)]
  | k, j, b, (i, c) :: h => by
    have ih := look_hset k j b h
    by_cases hik : i = k
    · subst hik
      simp only [hset, beq_self_eq_true, if_true, look, beq_iff_eq]
      by_cases hj : j = i
      · subst hj; simp
      · rw [if_neg hj, if_neg (fun e => hj e.symm), if_neg (fun e => hj e.symm)]
    · have : (i == k) = false := by simpa using hik
      simp only [hset, this, Bool.false_eq_true, if_false, look, beq_iff_eq]
      rw [ih]
      by_cases hij : i = j
      · subst hij
        simp [hik]
      · rw [if_neg hij, if_neg hij]
theorem look_hdel : ∀ (k j : Nat) (h : Hp), look j (hdel k h) = if j = k then none else look j h
  | k, j, [] => by simp [hdel, look]
  | k, j, (i, c) :: h => by
    have ih := look_hdel k j h
    by_cases hik : i = k
    · subst hik
      simp only [hdel, beq_self_eq_true, if_true, look, beq_iff_eq]
      rw [ih]
      by_cases hj : j = i
      · rw [if_pos hj, if_pos hj]
      · rw [if_neg hj, if_neg hj, if_neg (fun e => hj e.symm)]
    · have : (i == k) = false := by simpa using hik
      simp only [hdel, this, Bool.false_eq_true, if_false, look, beq_iff_eq]
      rw [ih]
      by_cases hij : i = j
      · subst hij
        simp [hik]
      · rw [if_neg hij, if_neg hij]
theorem addr_add (b o j : Nat) : (⟨b, o, none⟩ : Addr).add j = ⟨b, o + j, none⟩ := by
  unfold Addr.add
  split
  · subst_vars; rfl
  · rfl
theorem run_loadVar_cells {t : TypeId} {i : TypeInfo} {u : TypeDesc} (hi : P.info? t = some i) (hu : P.underlying t = some u) {b o : Nat} {us : List Value} (hn : us.length = i.size)
    (hc : ∀ j x, us[j]? = some x → w.cell? ⟨b, o + j, none⟩ = some x) (h1 : aggD u = false → i.size = 1) : (loadVar t ⟨b, o, none⟩).run P w = .ok (packV (aggD u) us) w := by
  unfold loadVar
  simp only [Sem.run_bind, run_isAgg hu, Result.andThen_ok]
  cases hg : aggD u
  · simp only [Bool.false_eq_true, if_false]
    match us, hn with
    | [], hn => have := h1 hg; simp at hn; omega
    | x :: us, hn =>
      have := hc 0 x rfl
      simp only [Nat.add_zero] at this
      simp [this, packV]
  · have := run_loadCells_list (P := P) w ⟨b, o, none⟩ us (fun j v hj => by rw [addr_add]; exact hc j v hj)
    rw [hn] at this
    simp [run_sizeOf hi, this, packV]
theorem ti_sizes {t : TypeId} {x : TI} (h : ti P t = some x) : ∃ i u, P.info? t = some i ∧ P.underlying t = some u ∧ x.size = i.size ∧ x.agg = aggD u := by
  obtain ⟨i, u, z, hi, hu, hz, h1, h2, h3⟩ := ti_parts h
  subst h3
  exact ⟨i, u, hi, hu, rfl, rfl⟩
theorem load_end {t : TypeId} {x : TI} (ht : ti P t = some x) {l : List AV} {r : AV} {us : List Value} {b o : Nat} {av : Value} (hav : av = .pointer (some ⟨b, o, none⟩)) (hl : us.length = x.size) (hr : RepC w G η l us) (hp : pack x.agg l = some r)
    (hc : ∀ j x, us[j]? = some x → w.cell? ⟨b, o + j, none⟩ = some x) : ∃ v, (Instr.loadAt t av).run P w = .ok v w ∧ Rep w G η r v := by
  obtain ⟨i, u, hi, hu, h1, h2⟩ := ti_sizes ht
  obtain ⟨k1, k2⟩ := pack_rep hp hr
  subst hav
  refine ⟨_, ?_, k1⟩
  simp only [Instr.loadAt, Instr.sureAddr, Sem.run_bind, Sem.run_pure, Result.andThen_ok]
  rw [h2]
  exact run_loadVar_cells hi hu (by rw [hl, h1]) hc (fun hg => by have := k2 (by rw [h2, hg]); omega)
theorem flat_row {es : Nat} : ∀ {rows : List (List AV)} {i : Nat} {r : List AV} {xs : List Value}, (∀ r ∈ rows, r.length = es) → rows[i]? = some r → RepC w G η rows.flatten xs → RepC w G η r ((xs.drop (i * es)).take es)
  | [], i, r, xs, h, hr, hx => by simp at hr
  | q :: rows, i, r, xs, h, hr, hx => by
    have hq : q.length = es := h q (by simp)
    have app : ∀ (a b : List AV) (xs : List Value), RepC w G η (a ++ b) xs → RepC w G η a (xs.take a.length) ∧ RepC w G η b (xs.drop a.length) := by
      intro a
      induction a with
      | nil => intro b xs h; exact ⟨by simp [RepC], by simpa using h⟩
      | cons c a ih =>
        intro b xs h
        match xs, h with
        | [], h => exact h.elim
        | x :: xs, h =>
          have := ih b xs h.2
          exact ⟨⟨h.1, this.1⟩, this.2⟩
    rw [List.flatten_cons] at hx
    obtain ⟨h1, h2⟩ := app _ _ _ hx
    rw [hq] at h1 h2
    cases i with
    | zero =>
      simp only [List.getElem?_cons_zero, Option.some.injEq] at hr
      subst hr
      simpa using h1
    | succ i =>
      have := flat_row (es := es) (i := i) (fun r hr => h r (by simp [hr])) (by simpa using hr) h2
      rw [List.drop_drop] at this
      rwa [show es + i * es = (i + 1) * es by rw [Nat.add_mul]; omega] at this
theorem sound_load {t : TypeId} {a r : AV} {u : Upd} {av : Value} (h : aLoad hp (ti P t) a = some (r, u)) (ha : Rep w G η a av) (hm : Mem w B G η hp) : Yd P w G η r u (Instr.loadAt t av) := by
  unfold aLoad at h
  split at h
  · rename_i id off
    split at h
    · rename_i x cs ht hb
      split at h
      · rename_i l hl
        split at h
        · rename_i v hv
          obtain ⟨rfl, rfl⟩ := pure1_eq h
          obtain ⟨b, h1, h2⟩ := ha
          obtain ⟨hd, h3, h4, _⟩ := hm.rep id _ hb
          rw [h1] at h3
          simp only [Option.some.injEq] at h3
          subst h3
          obtain ⟨b', T, vs, h5, h6, h7⟩ := h4
          simp only [Value.pointer.injEq, Option.some.injEq, Addr.mk.injEq, and_true] at h5
          subst h5
          obtain ⟨k1, k2⟩ := rd_repC hl h7
          refine ⟨rfl, load_end ht h2 (take_len k1 k2) k1 hv fun j x hx => ?_⟩
          rw [cell_of_row w b (off + j) _ T (0, 0) h6]
          rw [List.getElem?_take] at hx
          split at hx
          · simpa using hx
          · simp at hx
        · simp at h
      · simp at h
    · simp at h
  · rename_i id es i off
    split at h
    · rename_i x e es' rows ht hb
      split at h
      · rename_i he
        subst he
        split at h
        · rename_i q hq
          split at h
          · rename_i l hl
            split at h
            · rename_i v hv
              obtain ⟨rfl, rfl⟩ := pure1_eq h
              obtain ⟨b, n, c, h1, h2⟩ := ha
              obtain ⟨hd, h3, h4, _⟩ := hm.rep id _ hb
              rw [h1] at h3
              simp only [Option.some.injEq] at h3
              subst h3
              obtain ⟨xs, h5, h6, h7, h8⟩ := h4
              obtain ⟨k1, k2⟩ := rd_repC hl (flat_row h7 hq h6)
              have hin : i < rows.length := (List.getElem?_eq_some_iff.1 hq).1
              have hn : n = rows.length := by
                rcases h5.2 with ⟨h, _⟩ | ⟨g', cap', cur, h', _⟩
                · simp at h
                · simp only [Value.slice.injEq] at h'; exact h'.2.1
              subst hn
              refine ⟨rfl, load_end ht h2 (take_len k1 k2) (repC_up0 k1) hv fun j x hx => ?_⟩
              rw [List.getElem?_take] at hx
              split at hx
              · rename_i hj
                rw [List.getElem?_drop, List.getElem?_take] at hx
                split at hx
                · rename_i hj2
                  rw [List.getElem?_drop] at hx
                  rw [h5.cellAt (i * es + off + j) (by
                    have : (i + 1) * es ≤ rows.length * es := Nat.mul_le_mul_right _ hin
                    rw [Nat.add_mul] at this
                    omega), show i * es + off + j = i * es + (off + j) by omega]
                  exact hx
                · simp at hx
              · simp at hx
            · simp at h
          · simp at h
        · simp at h
      · simp at h
    · simp at h
  · rename_i row off
    split at h
    · rename_i x ht
      split at h
      · rename_i l hl
        split at h
        · rename_i v hv
          obtain ⟨rfl, rfl⟩ := pure1_eq h
          obtain ⟨b, o, h1, h2, h3⟩ := ha
          obtain ⟨us, k1, k2, k3⟩ := rd_row hl h3
          exact ⟨rfl, load_end ht h1 k2 (repC_up0 k1) hv k3⟩
        · simp at h
      · simp at h
    · simp at h
  · simp at h
theorem run_fieldAt {t : TypeId} {gs : Array Field} {f : Nat} {g : Field} {i : TypeInfo} (hu : P.underlying t = some (.struct gs)) (hg : gs[f]? = some g) (hi : P.info? g.type = some i) (h0 : i.size ≠ 0) (b o : Nat) (w : World) :
    (Instr.fieldAt t (.pointer (some ⟨b, o, none⟩)) f).run P w = .ok (.pointer (some ⟨b, o + g.offset, none⟩)) w := by
  simp only [Instr.fieldAt, Sem.run_bind, run_underlying hu, Result.andThen_ok, hg, Instr.sureAddr, Sem.run_pure, fieldPlace, run_sizeOf hi, h0, if_false, addr_add]
theorem sound_fieldAddr {t : TypeId} {f : Nat} {x r : AV} {u : Upd} {xv : Value} (h : aFieldAddr (ti P t) f x = some (r, u)) (hx : Rep w G η x xv) : Yd P w G η r u (Instr.fieldAt t xv f) := by
  unfold aFieldAddr at h
  split at h
  · rename_i fs _ _ _ ht
    obtain ⟨gs, hu, hm⟩ := ti_struct ht
    split at h
    · rename_i fd hf
      obtain ⟨g, i, v, hg, hi, hv, rfl⟩ := field_at (t := t) hm hf
      split at h
      · simp at h
      · rename_i h0
        split at h
        · obtain ⟨rfl, rfl⟩ := pure1_eq h
          obtain ⟨b, h1, rfl⟩ := hx
          exact ⟨rfl, _, run_fieldAt hu hg hi h0 _ _ w, b, h1, rfl⟩
        · obtain ⟨rfl, rfl⟩ := pure1_eq h
          obtain ⟨b, n, c, h1, rfl⟩ := hx
          exact ⟨rfl, _, run_fieldAt hu hg hi h0 _ _ w, b, n, c, h1, by rw [Nat.add_assoc]⟩
        · obtain ⟨rfl, rfl⟩ := pure1_eq h
          obtain ⟨b, o, rfl, h2, h3⟩ := hx
          exact ⟨rfl, _, run_fieldAt hu hg hi h0 _ _ w, b, o, by rw [Nat.add_assoc], h2, h3⟩
        · simp at h
    · simp at h
  · simp at h
theorem sound_len {t ty : TypeId} {ts : Array TypeId} {x r : AV} {u : Upd} {xv : Value} (hts : ts = #[t]) (h : aLen hp (ti P t) x = some (r, u)) (hx : Rep w G η x xv) (hm : Mem w B G η hp) : Yd P w G η r u (Builtin.len_ ts ty #[xv]) := by
  subst hts
  unfold aLen at h
  split at h
  · rename_i s
    obtain rfl : xv = .string s := hx
    split at h
    · rename_i ht
      refine yd_val h ?_ rfl
      simp [Builtin.len_, run_underlying (ti_str ht), goInt]
    · simp at h
  · obtain rfl : xv = .slice none 0 0 := hx
    split at h
    · rename_i ht
      refine yd_val h ?_ rfl
      simp [Builtin.len_, run_underlying (ti_slice ht).1, goInt]
    · simp at h
  · rename_i rows
    obtain ⟨a, n, c, es, rfl, hn, _⟩ := hx
    split at h
    · rename_i ht
      refine yd_val h ?_ rfl
      simp [Builtin.len_, run_underlying (ti_slice ht).1, goInt, hn]
    · simp at h
  · rename_i id
    obtain ⟨h1, a, n, c, rfl⟩ := hx
    split at h
    · rename_i e es rows ht hb
      obtain ⟨hd, h3, h4, _⟩ := hm.rep id _ hb
      rw [h1] at h3
      simp only [Option.some.injEq] at h3
      subst h3
      obtain ⟨xs, h5, _⟩ := h4
      have hn : n = rows.length := by
        rcases h5.2 with ⟨h, h'⟩ | ⟨g', cap', cur, h', _⟩
        · simp only [Value.slice.injEq] at h; omega
        · simp only [Value.slice.injEq] at h'; exact h'.2.1
      refine yd_val h ?_ rfl
      simp [Builtin.len_, run_underlying (ti_slice ht).1, goInt, hn]
    · simp at h
  · rename_i cs
    obtain ⟨vs, rfl, _⟩ := hx
    split at h
    · rename_i n es ag _ _ _ ht
      obtain ⟨e, i, v, hu, _⟩ := ti_arr ht
      refine yd_val h ?_ rfl
      simp [Builtin.len_, run_underlying hu, goInt]
    · simp at h
  · simp at h
theorem rows_at {es : Nat} : ∀ {rows : List (List AV)} {i : Nat} {r : List AV} {b o : Nat}, (∀ r ∈ rows, r.length = es) → rows[i]? = some r → RepRows w G rows b o → RepRow w G r b (o + i * es)
  | [], i, r, b, o, h, hr, hx => by simp at hr
  | q :: rows, i, r, b, o, h, hr, hx => by
    cases i with
    | zero =>
      simp only [List.getElem?_cons_zero, Option.some.injEq] at hr
      subst hr
      simpa using hx.1
    | succ i =>
      have := rows_at (es := es) (i := i) (fun r hr => h r (by simp [hr])) (by simpa using hr) hx.2
      rw [h q (by simp)] at this
      rwa [show o + es + i * es = o + (i + 1) * es by rw [Nat.add_mul]; omega] at this
theorem sound_indexAddr {t : TypeId} {x i r : AV} {u : Upd} {xv iv : Value} (h : aIndexAddr hp (ti P t) x i = some (r, u)) (hx : Rep w G η x xv) (hi : Rep w G η i iv) (hm : Mem w B G η hp) : Yd P w G η r u (Instr.indexAt t xv iv) := by
  unfold aIndexAddr at h
  split at h
  · rename_i e es _ _ _ _ _ k n ht
    obtain rfl : iv = .int k n := hi
    obtain ⟨hu, info, z, hinf, hz, _, _, hsz, _, hes, _⟩ := ti_slice ht
    split at h
    · rename_i rows
      split at h
      · rename_i q hq
        split at h
        · rename_i hql
          obtain ⟨rfl, rfl⟩ := pure1_eq h
          obtain ⟨a, m, c, es', rfl, hn, _, _, hrow, hc⟩ := hx
          unfold idx at hq
          split at hq
          · rename_i h0
            have hlt : n.toNat < rows.length := (List.getElem?_eq_some_iff.1 hq).1
            have hes' : es' = es := by rw [← hql]; exact (hrow q (List.mem_of_getElem? hq)).symm
            subst hes'
            rcases hc with rfl | ⟨b, o, rfl, hg, hr⟩
            · simp at hq
            · refine ⟨rfl, .pointer (some ⟨b, o + n.toNat * es', none⟩), ?_, b, o + n.toNat * es', rfl, hg, rows_at hrow hq hr⟩
              have : 0 ≤ n ∧ n < (m : Int) := ⟨h0, by omega⟩
              simp [Instr.indexAt, asIntOf, run_underlying hu, this, run_sizeOf hinf, hsz, addr_add]
          · simp at hq
        · simp at h
      · simp at h
    · rename_i id
      split at h
      · rename_i e' es' rows hb
        split at h
        · rename_i hc
          obtain ⟨rfl, h0, h1⟩ := hc
          obtain ⟨rfl, rfl⟩ := pure1_eq h
          obtain ⟨k1, a, m, c, rfl⟩ := hx
          obtain ⟨hd, h3, h4, _⟩ := hm.rep id _ hb
          rw [k1] at h3
          simp only [Option.some.injEq] at h3
          subst h3
          obtain ⟨xs, h5, _⟩ := h4
          rcases h5.2 with ⟨h, h'⟩ | ⟨g', cap', cur, h', _⟩
          · simp only [Value.slice.injEq] at h; omega
          · simp only [Value.slice.injEq] at h'
            obtain ⟨rfl, rfl, rfl⟩ := h'
            refine ⟨rfl, .pointer (some ⟨g', n.toNat * es', none⟩), ?_, g', _, _, k1, rfl⟩
            have : 0 ≤ n ∧ n < (rows.length : Int) := ⟨h0, h1⟩
            simp [Instr.indexAt, asIntOf, run_underlying hu, this, run_sizeOf hinf, hsz, addr_add]
        · simp at h
      · simp at h
    · simp at h
  · rename_i m es ag _ _ _ k n ht
    obtain rfl : iv = .int k n := hi
    obtain ⟨e, info, v, hu, hinf, _, hes, _⟩ := ti_arr ht
    split at h
    · rename_i id off
      split at h
      · rename_i hc
        obtain ⟨rfl, rfl⟩ := pure1_eq h
        obtain ⟨b, h1, rfl⟩ := hx
        refine ⟨rfl, .pointer (some ⟨b, off + n.toNat * es, none⟩), ?_, b, h1, rfl⟩
        simp [Instr.indexAt, asIntOf, run_underlying hu, hc, run_sizeOf hinf, hes, addr_add, Instr.sureAddr]
      · simp at h
    · simp at h
  · simp at h
theorem sound_index {t : TypeId} {x i r : AV} {u : Upd} {xv iv : Value} (h : aIndex (ti P t) x i = some (r, u)) (hx : Rep w G η x xv) (hi : Rep w G η i iv) : Yd P w G η r u (Instr.index t xv iv) := by
  unfold aIndex at h
  split at h
  · rename_i m es ag _ _ _ cs k n ht
    obtain rfl : iv = .int k n := hi
    obtain ⟨e, info, v, hu, hinf, hv, hes, hag⟩ := ti_arr ht
    split at h
    · rename_i hc
      split at h
      · rename_i l hl
        split at h
        · rename_i a ha
          obtain ⟨rfl, rfl⟩ := pure1_eq h
          obtain ⟨vs, rfl, hr⟩ := hx
          obtain ⟨h1, h2⟩ := rd_repC hl hr
          obtain ⟨k1, k2⟩ := pack_rep ha h1
          subst hes hag
          refine ⟨rfl, _, ?_, k1⟩
          simp only [Instr.index, asIntOf, Sem.run_bind, Sem.run_pure, run_underlying hu, Result.andThen_ok, hc, and_self, if_true, run_sizeOf hinf]
          exact run_part hinf hv vs _ w k2 (fun hg => by have := k2 hg; rw [take_len h1 h2] at this; exact this)
        · simp at h
      · simp at h
    · simp at h
  · rename_i s k n ht
    obtain rfl : iv = .int k n := hi
    obtain rfl : xv = .string s := hx
    split at h
    · rename_i b hb
      refine yd_val h ?_ rfl
      unfold atStr at hb
      simp only [Instr.index, asIntOf, Sem.run_bind, Sem.run_pure, run_underlying (ti_str ht), Result.andThen_ok, hb]
    · simp at h
  · simp at h
end
end E
end
section
namespace E
section
variable {P : Program} {w w' : World} {B : Nat} {G : Nat → Prop} {η η' : Nat → Option Value} {hp : Hp}
theorem hb_own {v : Value} {e es n xs base} (h : w.ownsRow base e es v n xs) : hb v = v.ownBlock := by
  rcases h.2 with ⟨rfl, _⟩ | ⟨g, cap, cur, rfl, _⟩ <;> rfl
theorem RepB.up {G' : Nat → Prop} (hG : Up w w' G G') (hη : Ge η η') {b : Blk} {v : Value} (hblk : ∀ g, hb v = some g → w'.heap[g]? = w.heap[g]?) (h : RepB w G η b v) : RepB w' G' η' b v := by
  cases b with
  | box cs =>
    obtain ⟨b, T, vs, rfl, h2, h3⟩ := h
    exact ⟨b, T, vs, rfl, (hblk b rfl).trans h2, RepC.up hG hη _ _ h3⟩
  | row e es rows =>
    obtain ⟨xs, h1, h2, h3⟩ := h
    refine ⟨xs, ⟨h1.1, ?_⟩, RepC.up hG (fun _ _ h => h) _ _ h2, h3⟩
    rcases h1.2 with h | ⟨g, cap, cur, rfl, k1, k2, k3⟩
    · exact .inl h
    · exact .inr ⟨g, cap, cur, rfl, k1, (hblk g rfl).trans k2, k3⟩
theorem RepB.lt {b : Blk} {v : Value} {g : Nat} (h : RepB w G η b v) (hg : hb v = some g) : g < w.heap.size := by
  cases b with
  | box cs =>
    obtain ⟨b, T, vs, rfl, h2, h3⟩ := h
    simp only [hb, Option.some.injEq] at hg
    subst hg
    exact (Array.getElem?_eq_some_iff.1 h2).1
  | row e es rows =>
    obtain ⟨xs, h1, h2, h3⟩ := h
    rw [hb_own h1] at hg
    exact (h1.lt g hg).2
def put1 (η : Nat → Option Value) (k : Nat) (v : Value) : Nat → Option Value := fun i => if i = k then some v else η i
theorem put1_ge {k : Nat} {v : Value} (h : η k = none) : Ge η (put1 η k v) := by
  intro id x hx
  unfold put1
  split
  · subst_vars; rw [h] at hx; simp at hx
  · exact hx
theorem put1_same {k : Nat} {v : Value} : put1 η k v k = some v := by simp [put1]
theorem Mem.none_of (hm : Mem w B G η hp) {k : Nat} (h : η k = none) : look k hp = none := by
  cases hl : look k hp with
  | none => rfl
  | some b =>
    obtain ⟨v, h1, _⟩ := hm.rep k b hl
    rw [h] at h1
    simp at h1
theorem Mem.new (hm : Mem w B G η hp) (hlt : ∀ b, G b → b < w.heap.size) (hB : B ≤ w.heap.size) {k : Nat} (hk : η k = none) {v : Value} {b : Blk} (hw : ∀ i, i < w.heap.size → w'.heap[i]? = w.heap[i]?)
    (hv : ∀ g, hb v = some g → w.heap.size ≤ g) (hr : RepB w' G (put1 η k v) b v) : Mem w' B G (put1 η k v) (hset k b hp) := by
  have hUp : Up w w' G G := fun b hb => ⟨hb, hw b (hlt b hb)⟩
  constructor
  · intro id c hc
    rw [look_hset] at hc
    split at hc
    · subst_vars
      simp only [Option.some.injEq] at hc
      subst hc
      exact ⟨v, put1_same, hr, fun g hg => ⟨Nat.le_trans hB (hv g hg), fun hG => by have := hlt g hG; have := hv g hg; omega⟩⟩
    · rename_i hne
      obtain ⟨x, h1, h2, h3⟩ := hm.rep id c hc
      exact ⟨x, put1_ge hk _ _ h1, RepB.up hUp (put1_ge hk) (fun g hg => hw g (h2.lt hg)) h2, h3⟩
  · intro id id' c c' x x' g hc hc' hx hx' hg hg'
    rw [look_hset] at hc hc'
    unfold put1 at hx hx'
    split at hc <;> split at hc'
    · subst_vars; rfl
    · rename_i e hne
      subst e
      rw [if_pos rfl] at hx
      simp only [Option.some.injEq] at hx
      subst hx
      rw [if_neg hne] at hx'
      obtain ⟨y, h1, h2, _⟩ := hm.rep id' c' hc'
      rw [hx'] at h1
      simp only [Option.some.injEq] at h1
      subst h1
      have := h2.lt hg'
      have := hv g hg
      omega
    · rename_i hne e
      subst e
      rw [if_pos rfl] at hx'
      simp only [Option.some.injEq] at hx'
      subst hx'
      rw [if_neg hne] at hx
      obtain ⟨y, h1, h2, _⟩ := hm.rep id c hc
      rw [hx] at h1
      simp only [Option.some.injEq] at h1
      subst h1
      have := h2.lt hg
      have := hv g hg'
      omega
    · rename_i h1 h2
      rw [if_neg h1] at hx
      rw [if_neg h2] at hx'
      exact hm.inj id id' c c' x x' g hc hc' hx hx' hg hg'
theorem Mem.write (hm : Mem w B G η hp) {id g : Nat} {b0 b : Blk} {v : Value} (h0 : look id hp = some b0) (hη : η id = some v) (hg : hb v = some g) (hw : ∀ i, i ≠ g → w'.heap[i]? = w.heap[i]?)
    (hr : RepB w' G η b v) : Mem w' B G η (hset id b hp) := by
  obtain ⟨v', k1, k2, k3⟩ := hm.rep id _ h0
  rw [hη] at k1
  simp only [Option.some.injEq] at k1
  subst k1
  have hUp : Up w w' G G := fun b hb => ⟨hb, hw b (fun e => (k3 g hg).2 (e ▸ hb))⟩
  constructor
  · intro j c hc
    rw [look_hset] at hc
    split at hc
    · subst_vars
      simp only [Option.some.injEq] at hc
      subst hc
      exact ⟨v, hη, hr, k3⟩
    · rename_i hne
      obtain ⟨x, h1, h2, h3⟩ := hm.rep j c hc
      exact ⟨x, h1, RepB.up hUp (fun _ _ h => h) (fun i hi => hw i (fun e => hne (hm.inj j id c b0 x v i hc h0 h1 hη hi (e ▸ hg)))) h2, h3⟩
  · intro j j' c c' x x' i hc hc' hx hx' hi hi'
    rw [look_hset] at hc hc'
    split at hc <;> split at hc'
    · subst_vars; rfl
    · rename_i e _
      subst e
      exact hm.inj j j' b0 c' x x' i h0 hc' hx hx' hi hi'
    · rename_i _ e
      subst e
      exact hm.inj j j' c b0 x x' i hc h0 hx hx' hi hi'
    · exact hm.inj j j' c c' x x' i hc hc' hx hx' hi hi'
theorem Mem.moved (hm : Mem w B G η hp) (hlt : ∀ b, G b → b < w.heap.size) (hB : B ≤ w.heap.size) {id k : Nat} {b0 b : Blk} {v v' : Value} (h0 : look id hp = some b0) (hη : η id = some v) (hk : η k = none)
    (hw : ∀ i, i < w.heap.size → some i ≠ hb v → w'.heap[i]? = w.heap[i]?) (hv : ∀ g, hb v' = some g → hb v = some g ∨ w.heap.size ≤ g)
    (hr : RepB w' G (put1 η k v') b v') : Mem w' B G (put1 η k v') (hset k b (hdel id hp)) := by
  obtain ⟨v0, k1, k2, k3⟩ := hm.rep id _ h0
  rw [hη] at k1
  simp only [Option.some.injEq] at k1
  subst k1
  have hUp : Up w w' G G := fun b hb => ⟨hb, hw b (hlt b hb) (fun e => (k3 b e.symm).2 hb)⟩
  have key : ∀ j c, j ≠ k → look j (hset k b (hdel id hp)) = some c → j ≠ id ∧ look j hp = some c := by
    intro j c hjk hc
    rw [look_hset, if_neg hjk, look_hdel] at hc
    split at hc
    · simp at hc
    · exact ⟨‹_›, hc⟩
  have sep : ∀ j c x g, j ≠ id → look j hp = some c → η j = some x → hb x = some g → hb v' = some g → False := by
    intro j c x g hji hc hx hg hg'
    obtain ⟨y, h1, h2, _⟩ := hm.rep j c hc
    rw [hx] at h1
    simp only [Option.some.injEq] at h1
    subst h1
    rcases hv g hg' with h | h
    · exact hji (hm.inj j id c b0 x v g hc h0 hx hη hg h)
    · have := h2.lt hg; omega
  constructor
  · intro j c hc
    by_cases hjk : j = k
    · subst hjk
      rw [look_hset, if_pos rfl] at hc
      simp only [Option.some.injEq] at hc
      subst hc
      refine ⟨v', put1_same, hr, fun g hg => ?_⟩
      rcases hv g hg with h | h
      · exact k3 g h
      · exact ⟨by omega, fun hG => by have := hlt g hG; omega⟩
    · obtain ⟨hji, hc⟩ := key j c hjk hc
      obtain ⟨x, h1, h2, h3⟩ := hm.rep j c hc
      refine ⟨x, put1_ge hk _ _ h1, RepB.up hUp (put1_ge hk) (fun g hg => hw g (h2.lt hg) (fun e => hji (hm.inj j id c b0 x v g hc h0 h1 hη hg e.symm))) h2, h3⟩
  · intro j j' c c' x x' g hc hc' hx hx' hg hg'
    by_cases hjk : j = k <;> by_cases hjk' : j' = k
    · subst_vars; rfl
    · subst hjk
      obtain ⟨hji, hc'⟩ := key j' c' hjk' hc'
      simp only [put1, if_true, Option.some.injEq, hjk', if_false] at hx hx'
      subst hx
      exact (sep j' c' x' g hji hc' hx' hg' hg).elim
    · subst hjk'
      obtain ⟨hji, hc⟩ := key j c hjk hc
      simp only [put1, if_true, Option.some.injEq, hjk, if_false] at hx hx'
      subst hx'
      exact (sep j c x g hji hc hx hg hg').elim
    · obtain ⟨hji, hc⟩ := key j c hjk hc
      obtain ⟨hji', hc'⟩ := key j' c' hjk' hc'
      simp only [put1, hjk, hjk', if_false] at hx hx'
      exact hm.inj j j' c c' x x' g hc hc' hx hx' hg hg'
def Done (w : World) (B : Nat) (G : Nat → Prop) (η : Nat → Option Value) (hp : Hp) (k : Nat) (r : AV) (u : Upd) (v : Value) (w' : World) : Prop :=
  ∃ η', Ge η η' ∧ (∀ id, η' id ≠ none → η id ≠ none ∨ id = k) ∧ Rep w' G η' r v ∧ Mem w' B G η' (u.on hp) ∧ Below B w w' ∧ ∀ b, G b → w'.heap[b]? = w.heap[b]?
theorem Yd.done {k : Nat} {r : AV} {u : Upd} {m : Sem Value} (h : Yd P w G η r u m) (hm : Mem w B G η hp) : ∃ v, m.run P w = .ok v w ∧ Done w B G η hp k r u v w := by
  obtain ⟨rfl, v, h1, h2⟩ := h
  exact ⟨v, h1, η, fun _ _ h => h, fun _ h => .inl h, h2, hm, Below.refl _ _, fun _ _ => rfl⟩
theorem done_new {k : Nat} {r : AV} {b : Blk} {v x : Value} {o : Obj} {w1 : World} (hm : Mem w B G η hp) (hlt : ∀ b, G b → b < w.heap.size) (hB : B ≤ w.heap.size) (hk : η k = none)
    (h1 : w1 = w ∨ w1 = w.drew) (hv : ∀ g, hb v = some g → w.heap.size ≤ g) (hr : RepB (w1.alloc o) G (put1 η k v) b v) (hx : Rep (w1.alloc o) G (put1 η k v) r x) : Done w B G η hp k r (.set k b) x (w1.alloc o) := by
  have hsz : w1.heap.size = w.heap.size := by rcases h1 with rfl | rfl <;> rfl
  have hw : ∀ i, i < w.heap.size → (w1.alloc o).heap[i]? = w.heap[i]? := fun i hi => by
    rw [Below.heap_alloc _ _ _ (by rw [hsz]; exact hi)]
    rcases h1 with rfl | rfl <;> rfl
  have hb : Below B w (w1.alloc o) := by
    rcases h1 with rfl | rfl
    · exact (Below.refl _ _).alloc hB _
    · exact (Below.refl _ _).drew.alloc hB _
  refine ⟨put1 η k v, put1_ge hk, fun id h => ?_, hx, hm.new hlt hB hk hw hv hr, hb, fun b hb => hw b (hlt b hb)⟩
  unfold put1 at h
  split at h
  · exact .inr ‹_›
  · exact .inl h
theorem one_cells : ∀ {v : Value}, One v → v.cells = #[v]
  | .agg _, h => by simp [One, Value.oneCell'] at h
  | .tuple _, h => by simp [One, Value.oneCell'] at h
  | .bool _, _ | .int _ _, _ | .float _ _, _ | .complex _ _ _, _ | .string _, _ | .pointer _, _ | .slice _ _ _, _ | .map _, _ | .chan _, _ | .func _ _ _, _ | .nilFunc, _ | .iface _ _, _ | .nilIface, _ => rfl
theorem cellsOf_rep {a : AV} {cs : List AV} {v : Value} (h : cellsOf a = some cs) (r : Rep w G η a v) : ∃ vs : List Value, v.cells = vs.toArray ∧ RepC w G η cs vs := by
  unfold cellsOf at h
  split at h
  · simp only [Option.some.injEq] at h
    subst h
    obtain ⟨vs, rfl, hr⟩ := r
    exact ⟨vs, rfl, hr⟩
  · split at h
    · rename_i hc
      simp only [Option.some.injEq] at h
      subst h
      have := one_of_cell1 hc r
      exact ⟨[v], one_cells this, ⟨this, r⟩, trivial⟩
    · simp at h
theorem repC_one {cs : List AV} {vs : List Value} (h : RepC w G η cs vs) : ∀ v ∈ vs, v.oneCell' = true := by
  induction vs generalizing cs with
  | nil => intro v hv; simp at hv
  | cons x vs ih =>
    match cs, h with
    | [], h => exact h.elim
    | c :: cs, h =>
      intro v hv
      rcases List.mem_cons.1 hv with rfl | hv
      · exact h.1.1
      · exact ih h.2 v hv
theorem setRow_other' (w : World) (g k : Nat) (cs : Array Value) (h : k ≠ g) : (w.setRow g cs).heap[k]? = w.heap[k]? := setRow_other w g k cs h
theorem wr_repC : ∀ {off : Nat} {new cs l : List AV} {us vs : List Value}, wr off new cs = some l → RepC w G η new us → RepC w G η cs vs → RepC w G η l (vs.take off ++ us ++ vs.drop (off + us.length)) ∧ off + us.length ≤ vs.length
  | 0, [], cs, l, us, vs, h, hn, hc => by
    simp only [wr, Option.some.injEq] at h
    subst h
    match us, hn with
    | [], _ => simpa using hc
    | _ :: _, h => exact h.elim
  | 0, x :: new, [], l, us, vs, h, hn, hc => by simp [wr] at h
  | 0, x :: new, c :: cs, l, us, vs, h, hn, hc => by
    simp only [wr] at h
    split at h
    · rename_i l' hl
      simp only [Option.some.injEq] at h
      subst h
      match us, hn, vs, hc with
      | [], hn, _, _ => exact hn.elim
      | _ :: _, _, [], hc => exact hc.elim
      | u :: us, hn, v :: vs, hc =>
        have := wr_repC hl hn.2 hc.2
        simp only [List.take_zero, List.nil_append, Nat.zero_add] at this ⊢
        exact ⟨⟨hn.1, by simpa using this.1⟩, by simpa using this.2⟩
    · simp at h
  | o + 1, new, [], l, us, vs, h, hn, hc => by simp [wr] at h
  | o + 1, new, c :: cs, l, us, vs, h, hn, hc => by
    simp only [wr] at h
    split at h
    · rename_i l' hl
      simp only [Option.some.injEq] at h
      subst h
      match vs, hc with
      | [], hc => exact hc.elim
      | v :: vs, hc =>
        have := wr_repC hl hn hc.2
        refine ⟨?_, by have := this.2; simp; omega⟩
        rw [show o + 1 + us.length = (o + us.length) + 1 by omega]
        exact ⟨hc.1, this.1⟩
    · simp at h
theorem data_rep : ∀ {c : AV} {v : Value}, data c = true → Rep w G η c v → Rep w G no c v
  | .val _, _, _, h => h
  | .nil, _, _, h => h
  | .lst _, _, _, h => h
  | .elm _ _, _, _, h => h
  | .ref _ _, _, hd, _ => by simp [data] at hd
  | .rel _ _ _ _, _, hd, _ => by simp [data] at hd
  | .own _, _, hd, _ => by simp [data] at hd
  | .agg _, _, hd, _ => by simp [data] at hd
  | .tup _, _, hd, _ => by simp [data] at hd
  | .fn _ _ _, _, hd, _ => by simp [data] at hd
  | .top, _, hd, _ => by simp [data] at hd
theorem data_repC : ∀ {cs : List AV} {vs : List Value}, cs.all data = true → RepC w G η cs vs → RepC w G no cs vs
  | [], [], _, _ => trivial
  | [], _ :: _, _, h => h.elim
  | _ :: _, [], _, h => h.elim
  | c :: cs, v :: vs, hd, h => by
    simp only [List.all_cons, Bool.and_eq_true] at hd
    exact ⟨⟨h.1.1, data_rep hd.1 h.1.2⟩, data_repC hd.2 h.2⟩
theorem repC_append : ∀ {a b : List AV} {us vs : List Value}, RepC w G η a us → RepC w G η b vs → RepC w G η (a ++ b) (us ++ vs)
  | [], b, [], vs, _, h => h
  | [], _, _ :: _, _, h, _ => h.elim
  | _ :: _, _, [], _, h, _ => h.elim
  | c :: a, b, u :: us, vs, h, h' => ⟨h.1, repC_append h.2 h'⟩
theorem repC_split : ∀ {a b : List AV} {xs : List Value}, RepC w G η (a ++ b) xs → RepC w G η a (xs.take a.length) ∧ RepC w G η b (xs.drop a.length)
  | [], b, xs, h => ⟨by simp [RepC], by simpa using h⟩
  | c :: a, b, [], h => h.elim
  | c :: a, b, x :: xs, h => by
    have := repC_split (a := a) (b := b) (xs := xs) h.2
    exact ⟨⟨h.1, this.1⟩, this.2⟩
theorem flatten_set {es : Nat} : ∀ {rows : List (List AV)} {i : Nat} {r q : List AV} {xs ys : List Value}, (∀ r ∈ rows, r.length = es) → rows[i]? = some q → q.length = es → r.length = es → RepC w G η rows.flatten xs → RepC w G η r ys →
    RepC w G η (rows.set i r).flatten (xs.take (i * es) ++ ys ++ xs.drop (i * es + es))
  | [], i, r, q, xs, ys, h, hq, _, _, hx, hy => by simp at hq
  | p :: rows, 0, r, q, xs, ys, h, hq, hl, hr, hx, hy => by
    have hp := h p (by simp)
    simp only [List.flatten_cons] at hx
    have := repC_split hx
    simp only [List.set_cons_zero, List.flatten_cons, Nat.zero_mul, List.take_zero, List.nil_append, Nat.zero_add]
    rw [hp] at this
    exact repC_append hy this.2
  | p :: rows, i + 1, r, q, xs, ys, h, hq, hl, hr, hx, hy => by
    have hp := h p (by simp)
    simp only [List.flatten_cons] at hx
    obtain ⟨h1, h2⟩ := repC_split hx
    rw [hp] at h1 h2
    have ih := flatten_set (es := es) (i := i) (fun r hr => h r (by simp [hr])) (by simpa using hq) hl hr h2 hy
    simp only [List.set_cons_succ, List.flatten_cons]
    have e1 : xs.take ((i + 1) * es) = xs.take es ++ (xs.drop es).take (i * es) := by
      rw [show (i + 1) * es = es + i * es by rw [Nat.add_mul]; omega, List.take_add]
    have e2 : xs.drop ((i + 1) * es + es) = (xs.drop es).drop (i * es + es) := by
      rw [List.drop_drop, show (i + 1) * es + es = es + (i * es + es) by rw [Nat.add_mul]; omega]
    rw [e1, e2, List.append_assoc, List.append_assoc]
    rw [List.append_assoc] at ih
    exact repC_append h1 ih
theorem size_lt {m es i f : Nat} (h : i < m) (hf : f ≤ es) : i * es + f ≤ m * es := by
  have : (i + 1) * es ≤ m * es := Nat.mul_le_mul_right _ h
  rw [Nat.add_mul] at this
  omega
theorem splice {cur us : List Value} {N a f es : Nat} (hf : f + us.length ≤ es) (h : a + es ≤ N) (hN : N ≤ cur.length) :
    (cur.take (a + f) ++ us ++ cur.drop (a + f + us.length)).take N =
      (cur.take N).take a ++ ((((cur.take N).drop a).take es).take f ++ us ++ (((cur.take N).drop a).take es).drop (f + us.length)) ++ (cur.take N).drop (a + es) := by
  apply List.ext_getElem?
  intro j
  simp only [List.getElem?_append, List.getElem?_take, List.getElem?_drop, List.length_append, List.length_take, List.length_drop]
  repeat' split
  all_goals first | omega | rfl | (congr 1; omega) | (symm; apply List.getElem?_eq_none; omega) | (apply List.getElem?_eq_none; omega)
theorem sound_store {t : TypeId} {a x r : AV} {u : Upd} {k : Nat} {av xv : Value} (h : aStore hp (ti P t) a x = some (r, u)) (ha : Rep w G η a av) (hx : Rep w G η x xv) (hm : Mem w B G η hp) :
    ∃ w', (Instr.storeAt t av xv).run P w = .ok () w' ∧ Done w B G η hp k r u undef w' := by
  unfold aStore at h
  split at h
  · rename_i tt cs ht hcs
    obtain ⟨us, hus, hrep⟩ := cellsOf_rep hcs hx
    obtain ⟨info, v, hinf, hu, hs, _⟩ := ti_sizes ht
    split at h
    · rename_i hlen
      have hul : us.length = info.size := by rw [← repC_len hrep, hlen, hs]
      have hst : ∀ (g o : Nat) (T : TypeId) (cur : Array Value), w.heap[g]? = some (.cells cur T (0, 0)) → o + us.length ≤ cur.size →
          (Instr.storeAt t (.pointer (some ⟨g, o, none⟩)) xv).run P w = .ok () (w.setRow g (cur.toList.take o ++ us ++ cur.toList.drop (o + us.length)).toArray) := by
        intro g o T cur hg hle
        have h1 := run_storeCells_at P g o T us 0 cur w hg (by simpa using hle) (repC_one hrep)
        simp only [Nat.add_zero] at h1
        have hz : (us.length ≠ info.size) = False := by simp [hul]
        simp only [Instr.storeAt, Instr.sureAddr, storeVar, Sem.run_bind, Sem.run_pure, Result.andThen_ok, run_sizeOf hinf, hus, List.size_toArray, hz, if_false]
        simpa using h1
      have hbel : ∀ (g : Nat) (cur : Array Value), B ≤ g → Below B w (w.setRow g cur) := fun g cur hg => ⟨rfl, rfl, rfl, by simp, fun i hi => setRow_other' w g i cur (by omega)⟩
      split at h
      · rename_i id off
        split at h
        · rename_i l hl
          split at h
          · rename_i l' hw
            simp only [Option.some.injEq, Prod.mk.injEq] at h
            obtain ⟨rfl, rfl⟩ := h
            obtain ⟨b, k1, rfl⟩ := ha
            obtain ⟨hd, k2, k3, k4⟩ := hm.rep id _ hl
            rw [k1] at k2
            simp only [Option.some.injEq] at k2
            subst k2
            obtain ⟨b', T, vs, k5, k6, k7⟩ := k3
            simp only [Value.pointer.injEq, Option.some.injEq, Addr.mk.injEq, and_true] at k5
            subst k5
            obtain ⟨k8, k9⟩ := wr_repC hw hrep k7
            refine ⟨_, hst b off T vs.toArray k6 (by simpa using k9), η, fun _ _ h => h, fun _ h => .inl h, trivial, ?_, hbel b _ (k4 b rfl).1, fun i hi => setRow_other' w b i _ (fun e => (k4 b rfl).2 (e ▸ hi))⟩
            have hUp : Up w (w.setRow b (vs.take off ++ us ++ vs.drop (off + us.length)).toArray) G G := fun i hi => ⟨hi, setRow_other' w b i _ (fun e => (k4 b rfl).2 (e ▸ hi))⟩
            refine hm.write hl k1 rfl (fun i hi => setRow_other' w b i _ hi) ⟨b, T, _, rfl, setRow_heap w b vs.toArray _ T (0, 0) k6, ?_⟩
            exact RepC.up hUp (fun _ _ h => h) _ _ k8
          · simp at h
        · simp at h
      · rename_i id es i off
        split at h
        · rename_i e es' rows hl
          split at h
          · rename_i hc
            obtain ⟨rfl, hdat⟩ := hc
            split at h
            · rename_i q hq
              split at h
              · rename_i q' hw
                simp only [Option.some.injEq, Prod.mk.injEq] at h
                obtain ⟨rfl, rfl⟩ := h
                obtain ⟨b, n, c, k1, rfl⟩ := ha
                obtain ⟨hd, k2, k3, k4⟩ := hm.rep id _ hl
                rw [k1] at k2
                simp only [Option.some.injEq] at k2
                subst k2
                obtain ⟨xs, k5, k6, k7, k8⟩ := k3
                rcases k5.2 with ⟨hh, _⟩ | ⟨g', cap', cur, h', b0, b1, b2, b3, b4, b5⟩
                · simp at hh
                · simp only [Value.slice.injEq, Option.some.injEq, Addr.mk.injEq, and_true] at h'
                  obtain ⟨rfl, rfl, rfl⟩ := h'
                  have hin : i < rows.length := (List.getElem?_eq_some_iff.1 hq).1
                  have hql : q.length = es := k7 q (List.mem_of_getElem? hq)
                  have hfr := flat_row k7 hq k6
                  have hrep0 := data_repC hdat hrep
                  obtain ⟨j1, j2⟩ := wr_repC hw hrep0 hfr
                  have hxl : xs.length = rows.length * es := k5.1
                  have hle := size_lt (es := es) hin (Nat.le_refl _)
                  have hfl : ((xs.drop (i * es)).take es).length = es := by rw [← repC_len hfr, hql]
                  rw [hfl] at j2
                  have hq'l : q'.length = es := by
                    rw [repC_len j1]
                    simp only [List.length_append, List.length_take, List.length_drop, hxl]
                    omega
                  have hcur : cur.size = c * es := b4
                  have hcap : rows.length * es ≤ c * es := Nat.mul_le_mul_right _ b2
                  have hbl := (k4 b rfl)
                  have hst1 := hst b (i * es + off) e cur b1 (by omega)
                  have hUp : Up w (w.setRow b (cur.toList.take (i * es + off) ++ us ++ cur.toList.drop (i * es + off + us.length)).toArray) G G := fun j hj => ⟨hj, setRow_other' w b j _ (fun e => hbl.2 (e ▸ hj))⟩
                  refine ⟨_, hst1, η, fun _ _ h => h, fun _ h => .inl h, trivial, ?_, hbel b _ hbl.1, fun j hj => setRow_other' w b j _ (fun e => hbl.2 (e ▸ hj))⟩
                  have hset := flatten_set k7 hq hql hq'l k6 j1
                  refine hm.write hl k1 rfl (fun j hj => setRow_other' w b j _ hj) ⟨xs.take (i * es) ++ (((xs.drop (i * es)).take es).take off ++ us ++ ((xs.drop (i * es)).take es).drop (off + us.length)) ++ xs.drop (i * es + es), ⟨?_, .inr ⟨b, c, _, ?_, Nat.zero_le _, setRow_heap w b cur _ e (0, 0) b1, ?_, b3, ?_, ?_⟩⟩, RepC.up hUp (fun _ _ h => h) _ _ hset, ?_, k8⟩
                  · simp only [List.length_append, List.length_take, List.length_drop, hxl, List.length_set]
                    omega
                  · simp
                  · simpa using b2
                  · simp only [List.size_toArray, List.length_append, List.length_take, List.length_drop, Array.length_toList]
                    omega
                  · rw [← b5]
                    simpa using splice (cur := cur.toList) (us := us) (N := rows.length * es) (a := i * es) (f := off) (es := es) j2 hle (by simp; omega)
                  · intro p hp
                    rcases List.mem_or_eq_of_mem_set hp with hp | rfl
                    · exact k7 p hp
                    · exact hq'l
              · simp at h
            · simp at h
          · simp at h
        · simp at h
      · simp at h
    · simp at h
  · simp at h
end
end E
end
section
namespace E
section
variable {P : Program} {w w' : World} {B : Nat} {G : Nat → Prop} {η η' : Nat → Option Value} {hp : Hp}
theorem zero_rep {t : TypeId} {x : TI} (h : ti P t = some x) : ∃ i z, P.info? t = some i ∧ i.zero = some z ∧ z.cells.size = i.size ∧ x.size = i.size ∧ RepC w G η x.zero z.cells.toList := by
  obtain ⟨i, u, z, hi, hu, hz, h1, h2, h3⟩ := ti_parts h
  subst h3
  exact ⟨i, z, hi, hz, h2, rfl, repC_ofC _ h1⟩
theorem run_zeroValue {t : TypeId} {i : TypeInfo} {z : Value} (hi : P.info? t = some i) (hz : i.zero = some z) (w : World) : (zeroValue t).run P w = .ok z w := by
  simp only [zeroValue, typeInfo, Sem.run_bind, run_program, Result.andThen_ok, hi, Sem.run_pure, hz]
theorem box_new {cs : List AV} {vs : Array Value} {T : TypeId} {k : Nat} (hlt : ∀ b, G b → b < w.heap.size) (hk : η k = none) (h : RepC w G η cs vs.toList) :
    RepB (w.alloc (.cells vs T)) G (put1 η k (.pointer (some ⟨w.heap.size, 0, none⟩))) (.box cs) (.pointer (some ⟨w.heap.size, 0, none⟩)) := by
  refine ⟨w.heap.size, T, vs.toList, rfl, by simpa using heap_alloc_new w (.cells vs T), ?_⟩
  exact RepC.up (fun b hb => ⟨hb, Below.heap_alloc _ _ _ (hlt b hb)⟩) (put1_ge hk) _ _ h
theorem sound_alloc {t : TypeId} {k : Nat} {x : TI} (h : ti P t = some x) (hm : Mem w B G η hp) (hlt : ∀ b, G b → b < w.heap.size) (hB : B ≤ w.heap.size) (hk : η k = none) :
    ∃ v w', (Instr.alloc t true (.tuple #[])).run P w = .ok v w' ∧ Done w B G η hp k (.ref k 0) (.set k (.box x.zero)) v w' := by
  obtain ⟨i, z, hi, hz, h1, h2, hr⟩ := zero_rep (w := w) (G := G) (η := η) h
  refine ⟨.pointer (some ⟨w.heap.size, 0, none⟩), w.alloc (.cells z.cells t), ?_, ?_⟩
  · simp only [Instr.alloc, Sem.run_bind, run_zeroValue hi hz, Result.andThen_ok, newVar, newRow, run_newObj, Sem.run_pure]
    rfl
  · exact done_new hm hlt hB hk (.inl rfl) (fun g hg => by simp [hb] at hg; omega) (box_new hlt hk hr) ⟨w.heap.size, put1_same, rfl⟩
theorem sound_box {t : TypeId} {k : Nat} {x : AV} {xv : Value} {cs : List AV} (h : cellsOf x = some cs) (hx : Rep w G η x xv) (hm : Mem w B G η hp) (hlt : ∀ b, G b → b < w.heap.size) (hB : B ≤ w.heap.size) (hk : η k = none) :
    ∃ v w', (Instr.box t xv).run P w = .ok v w' ∧ Done w B G η hp k (.ref k 0) (.set k (.box cs)) v w' := by
  obtain ⟨vs, h1, hr⟩ := cellsOf_rep h hx
  refine ⟨.pointer (some ⟨w.heap.size, 0, none⟩), w.alloc (.cells vs.toArray t), ?_, ?_⟩
  · simp only [Instr.box, newVar, newRow, Sem.run_bind, run_newObj, Result.andThen_ok, Sem.run_pure, h1]
    rfl
  · exact done_new hm hlt hB hk (.inl rfl) (fun g hg => by simp [hb] at hg; omega) (box_new hlt hk (by simpa using hr)) ⟨w.heap.size, put1_same, rfl⟩
theorem fold_set (off : Nat) : ∀ (us : List Value) (k : Nat) (cells : Array Value), off + k + us.length ≤ cells.size →
    ((us.zipIdx k).foldl (fun (cs : Array Value) (x : Value × Nat) => cs.setIfInBounds (off + x.2) x.1) cells).toList = cells.toList.take (off + k) ++ us ++ cells.toList.drop (off + k + us.length)
  | [], k, cells, h => by simp
  | u :: us, k, cells, h => by
    have ih := fold_set off us (k + 1) (cells.setIfInBounds (off + k) u) (by simp at h ⊢; omega)
    simp only [List.zipIdx_cons, List.foldl_cons]
    rw [ih]
    have hlt : off + k < cells.toList.length := by simp at h ⊢; omega
    have e : (cells.setIfInBounds (off + k) u).toList.take (off + (k + 1)) = cells.toList.take (off + k) ++ [u] := by
      rw [Array.toList_setIfInBounds, show off + (k + 1) = (off + k) + 1 by omega, List.take_succ_eq_append_getElem (by simpa using hlt), List.take_set_of_le (Nat.le_refl _)]
      simp
    have e2 : (cells.setIfInBounds (off + k) u).toList.drop (off + (k + 1) + us.length) = cells.toList.drop (off + k + (us.length + 1)) := by
      rw [Array.toList_setIfInBounds, List.drop_set_of_lt (by omega), show off + (k + 1) + us.length = off + k + (us.length + 1) by omega]
    rw [e, e2]
    simp
def partsRel (w : World) (G : Nat → Prop) (η : Nat → Option Value) : List (Nat × AV) → List (Nat × Value) → Prop
  | [], [] => True
  | (i, a) :: az, (j, v) :: vs => i = j ∧ Rep w G η a v ∧ partsRel w G η az vs
  | _, _ => False
theorem fill_rep {pa pv : Nat → Option (Nat × Nat)} (hp : ∀ i x, pa i = some x → pv i = some x) : ∀ {ps : List (Nat × AV)} {vs : List (Nat × Value)} {cs l : List AV} {zs : List Value}, fillA pa cs ps = some l → partsRel w G η ps vs → RepC w G η cs zs →
    ∃ ls : List Value, Instr.fill pv zs.toArray vs = some ls.toArray ∧ RepC w G η l ls
  | [], [], cs, l, zs, h, _, hc => by
    simp only [fillA, Option.some.injEq] at h
    subst h
    exact ⟨zs, rfl, hc⟩
  | [], _ :: _, _, _, _, _, h, _ => h.elim
  | (_, _) :: _, [], _, _, _, _, h, _ => h.elim
  | (i, a) :: ps, (j, v) :: vs, cs, l, zs, h, hr, hc => by
    obtain ⟨rfl, h1, h2⟩ := hr
    unfold fillA at h
    split at h
    · rename_i off size cs' hpl hcs
      obtain ⟨us, hus, hrep⟩ := cellsOf_rep hcs h1
      split at h
      · rename_i hlen
        split at h
        · rename_i l' hw
          obtain ⟨k1, k2⟩ := wr_repC hw hrep hc
          obtain ⟨ls, k3, k4⟩ := fill_rep hp h h2 k1
          refine ⟨ls, ?_, k4⟩
          unfold Instr.fill
          rw [hp _ _ hpl]
          have hul : us.length = size := by rw [← repC_len hrep, hlen]
          have hcond : (v.cells.size ≠ size || decide (off + v.cells.size > zs.toArray.size)) = false := by
            rw [hus]
            simp only [List.size_toArray, hul, ne_eq, not_true_eq_false, decide_false, Bool.false_or, decide_eq_false_iff_not]
            omega
          simp only [hcond, Bool.false_eq_true, if_false]
          have hfold : (v.cells.zipIdx.foldl (fun (cs : Array Value) (x : Value × Nat) => cs.setIfInBounds (off + x.2) x.1) zs.toArray) = (zs.take off ++ us ++ zs.drop (off + us.length)).toArray := by
            apply Array.ext'
            rw [hus, ← Array.foldl_toList, Array.toList_zipIdx]
            have := fold_set off us 0 zs.toArray (by simpa using k2)
            simpa using this
          rw [← k3, ← hfold]
        · simp at h
      · simp at h
    · simp at h
theorem mapM_run {α β : Type} (g : α → Sem β) (f : α → β) : ∀ (l : List α), (∀ a ∈ l, ∀ w, (g a).run P w = .ok (f a) w) → ∀ w, (l.mapM g).run P w = .ok (l.map f) w
  | [], _, w => by simp
  | a :: l, h, w => by
    simp [h a (by simp), mapM_run g f l (fun b hb => h b (by simp [hb])) w]
theorem mapM_mem {α β : Type} (g : α → Option β) : ∀ (l : List α) (r : List β), l.mapM g = some r → ∀ y ∈ l, ∃ x, g y = some x
  | [], r, h, y, hy => by simp at hy
  | a :: l, r, h, y, hy => by
    simp only [List.mapM_cons, Option.bind_eq_bind, Option.bind_eq_some_iff, Option.pure_def, Option.some.injEq] at h
    obtain ⟨b, hb, r', hr, rfl⟩ := h
    rcases List.mem_cons.1 hy with rfl | hy
    · exact ⟨b, hb⟩
    · exact mapM_mem g l r' hr y hy
theorem zip_rel {ps : List (Nat × Operand)} {az : List AV} {ev : Operand → Value} {s : Operand → AV} (hs : az = (ps.map (·.2)).map s) (h : ∀ x, Rep w G η (s x) (ev x)) : partsRel w G η (zipP ps az) (ps.map fun x => (x.1, ev x.2)) := by
  subst hs
  induction ps with
  | nil => exact trivial
  | cons p ps ih => exact ⟨rfl, h _, ih⟩
theorem sound_build {t : TypeId} {ps : List (Nat × AV)} {vs : Array (Nat × Value)} {r : AV} {u : Upd} (h : aBuild (ti P t) ps = some (r, u)) (hr : partsRel w G η ps vs.toList) : Yd P w G η r u (Instr.build t vs) := by
  unfold aBuild at h
  split at h
  · rename_i x ht
    have hsa : isSA x.d = true := by
      cases hh : isSA x.d with
      | true => rfl
      | false => rw [hh] at h; simp at h
    rw [if_pos hsa] at h
    split at h
    · rename_i l hl
      obtain ⟨rfl, rfl⟩ := pure1_eq h
      obtain ⟨i, z, hi, hz, hzs, hxs, hrep⟩ := zero_rep (w := w) (G := G) (η := η) ht
      refine ⟨rfl, ?_⟩
      obtain ⟨d, xs, ag, zr⟩ := x
      cases hd : d with
      | struct fs =>
        subst hd
        obtain ⟨gs, hu, hm⟩ := ti_struct ht
        let pl : Field → Nat × Nat := fun f => (f.offset, ((P.info? f.type).map (·.size)).getD 0)
        have hrun : ∀ w, (gs.mapM fun f => do pure (f.offset, ← sizeOf f.type) : Sem (Array (Nat × Nat))).run P w = .ok (gs.map pl) w := by
          intro w
          rw [Array.mapM_eq_mapM_toList]
          have := mapM_run (P := P) (fun f : Field => (do pure (f.offset, ← sizeOf f.type) : Sem (Nat × Nat))) pl gs.toList (fun f hf w => by
            obtain ⟨x, hx⟩ := mapM_mem _ _ _ hm f hf
            obtain ⟨i, u, h1, h2, h3⟩ := fi_parts hx
            simp [run_sizeOf h1, pl, h1]) w
          simp only [Sem.run_map, this, Result.andThen_ok]
          congr 1
          apply Array.ext'
          simp
        obtain ⟨ls, k1, k2⟩ := fill_rep (pa := placeOf (.struct fs)) (pv := fun i => (gs.map pl)[i]?) (fun i x hx => by
          unfold placeOf at hx
          simp only at hx
          split at hx
          · rename_i fd hf
            obtain ⟨g, i', v, hg, hi', hv, rfl⟩ := field_at (t := t) hm hf
            simp only [Option.some.injEq] at hx
            subst hx
            simp [hg, pl, hi']
          · simp at hx) hl hr hrep
        refine ⟨.agg ls.toArray, ?_, ls, rfl, k2⟩
        simp only [Instr.build, Sem.run_bind, run_zeroValue hi hz, Result.andThen_ok, run_underlying hu]
        simp only [hrun, Result.andThen_ok]
        rw [show z.cells.toList.toArray = z.cells by simp] at k1
        simp only [k1, Sem.run_pure]
      | arr n es a =>
        subst hd
        obtain ⟨e, i', u', hu, hi', hu', rfl, _⟩ := ti_arr ht
        obtain ⟨ls, k1, k2⟩ := fill_rep (pa := placeOf (.arr n i'.size a)) (pv := fun i => some (i * i'.size, i'.size)) (fun i x hx => by simpa [placeOf] using hx) hl hr hrep
        refine ⟨.agg ls.toArray, ?_, ls, rfl, k2⟩
        simp only [Instr.build, Sem.run_bind, run_zeroValue hi hz, Result.andThen_ok, run_underlying hu, run_sizeOf hi']
        rw [show z.cells.toList.toArray = z.cells by simp] at k1
        simp only [k1, Sem.run_pure]
      | _ =>
        subst hd
        simp [isSA] at hsa
    · simp at h
  · simp at h
theorem reps_rep {zs : List Value} {zc : List AV} (h : RepC w G η zc zs) (d : Value) : ∀ n, RepC w G η (reps zc n) ((List.range (n * zs.length)).map fun j => zs.getD (j % zs.length) d)
  | 0 => by simp [reps, RepC]
  | n + 1 => by
    rw [show (n + 1) * zs.length = zs.length + n * zs.length by rw [Nat.add_mul]; omega, List.range_add, List.map_append]
    refine repC_append ?_ ?_
    · have : (List.range zs.length).map (fun j => zs.getD (j % zs.length) d) = zs := by
        apply List.ext_getElem?
        intro j
        by_cases hj : j < zs.length
        · simp [hj, Nat.mod_eq_of_lt hj]
        · simp [hj, List.getElem?_eq_none (Nat.le_of_not_lt hj)]
      rw [this]
      exact h
    · have := reps_rep h d n
      rw [List.map_map]
      have e : ((fun j => zs.getD (j % zs.length) d) ∘ fun x => zs.length + x) = fun j => zs.getD (j % zs.length) d := by
        funext j
        simp
      rw [e]
      exact this
theorem chunk_spec {es : Nat} : ∀ {n : Nat} {l : List AV} {rows : List (List AV)}, chunk es n l = some rows → l.length = n * es → rows.flatten = l ∧ rows.length = n ∧ ∀ r ∈ rows, r.length = es
  | 0, l, rows, h, hl => by
    simp only [chunk, Option.some.injEq] at h
    subst h
    have : l = [] := List.eq_nil_of_length_eq_zero (by simpa using hl)
    simp [this]
  | n + 1, l, rows, h, hl => by
    unfold chunk at h
    split at h
    · rename_i r hr
      split at h
      · rename_i rs hrs
        simp only [Option.some.injEq] at h
        subst h
        have hrd : ∀ (n : Nat) (l r : List AV), rd 0 n l = some r → r = l.take n ∧ n ≤ l.length := by
          intro n
          induction n with
          | zero => intro l r h; simp only [rd, Option.some.injEq] at h; simp [← h]
          | succ n ih =>
            intro l r h
            match l with
            | [] => simp [rd] at h
            | c :: l =>
              simp only [rd] at h
              split at h
              · rename_i l' hl'
                simp only [Option.some.injEq] at h
                obtain ⟨h1, h2⟩ := ih l l' hl'
                exact ⟨by simp [← h, h1], by simp; omega⟩
              · simp at h
        obtain ⟨h1, h2⟩ := hrd es l r hr
        have hl' : (l.drop es).length = n * es := by rw [List.length_drop, hl, Nat.add_mul]; omega
        obtain ⟨k1, k2, k3⟩ := chunk_spec hrs hl'
        refine ⟨by simp [k1, h1], by simp [k2], fun q hq => ?_⟩
        rcases List.mem_cons.1 hq with rfl | hq
        · rw [h1, List.length_take]; omega
        · exact k3 q hq
      · simp at h
    · simp at h
theorem row_new {rows : List (List AV)} {us : List Value} {e es n k : Nat} (hlt : ∀ b, G b → b < w.heap.size) (hul : us.length = n * es) (hn : n ≤ maxLen) (hrep : RepC w G no rows.flatten us) (hrl : rows.length = n) (hre : ∀ r ∈ rows, r.length = es) (hes : 0 < es) :
    RepB (w.alloc (.cells us.toArray e)) G (put1 η k (.slice (some ⟨w.heap.size, 0, none⟩) n n)) (.row e es rows) (.slice (some ⟨w.heap.size, 0, none⟩) n n) := by
  refine ⟨us, ?_, RepC.up (fun b hb => ⟨hb, Below.heap_alloc _ _ _ (hlt b hb)⟩) (fun _ _ h => h) _ _ hrep, hre, hes⟩
  rw [hrl]
  have := World.ownsRow_lit (base := 0) (e := e) (size := es) w us.toArray n (Nat.zero_le _) hn (by simpa using hul)
  simpa using this
theorem fillA_len {pa : Nat → Option (Nat × Nat)} : ∀ {ps : List (Nat × AV)} {cs l : List AV}, fillA pa cs ps = some l → l.length = cs.length
  | [], cs, l, h => by simp only [fillA, Option.some.injEq] at h; rw [h]
  | (i, a) :: ps, cs, l, h => by
    have hwr : ∀ (o : Nat) (new cs l : List AV), wr o new cs = some l → l.length = cs.length := by
      intro o new cs
      induction cs generalizing o new with
      | nil =>
        intro l h
        cases o with
        | zero => cases new with
          | nil => simp only [wr, Option.some.injEq] at h; rw [← h]
          | cons _ _ => simp [wr] at h
        | succ o => simp [wr] at h
      | cons c cs ih =>
        intro l h
        cases o with
        | zero => cases new with
          | nil => simp only [wr, Option.some.injEq] at h; rw [← h]
          | cons x new =>
            simp only [wr] at h
            split at h
            · simp only [Option.some.injEq] at h
              rw [← h, List.length_cons, List.length_cons, ih _ _ _ ‹_›]
            · simp at h
        | succ o =>
          simp only [wr] at h
          split at h
          · simp only [Option.some.injEq] at h
            rw [← h, List.length_cons, List.length_cons, ih _ _ _ ‹_›]
          · simp at h
    unfold fillA at h
    split at h
    · split at h
      · split at h
        · rename_i l' hw
          rw [fillA_len h, hwr _ _ _ _ hw]
        · simp at h
      · simp at h
    · simp at h
theorem reps_len (z : List AV) : ∀ n, (reps z n).length = n * z.length
  | 0 => by simp [reps]
  | n + 1 => by simp [reps, reps_len z n, Nat.add_mul]; omega
theorem sound_buildSlice {t : TypeId} {n k : Nat} {ps : List (Nat × AV)} {vs : Array (Nat × Value)} {r : AV} {u : Upd} (h : aBuildSlice k (ti P t) n ps = some (r, u)) (hr : partsRel w G η ps vs.toList)
    (hm : Mem w B G η hp) (hlt : ∀ b, G b → b < w.heap.size) (hB : B ≤ w.heap.size) (hk : η k = none) : ∃ v w', (Instr.buildSlice t n vs).run P w = .ok v w' ∧ Done w B G η hp k r u v w' := by
  unfold aBuildSlice at h
  split at h
  · rename_i e es by' z0 _ _ _ ht
    obtain ⟨hu, i, z, hi, hz, hone, hzs, his, _, hes, hz0⟩ := ti_slice ht
    split at h
    · rename_i hbd
      split at h
      · rename_i l hl
        split at h
        · rename_i hd
          split at h
          · rename_i rows hrows
            simp only [Option.some.injEq, Prod.mk.injEq] at h
            obtain ⟨rfl, rfl⟩ := h
            have hz0r : RepC w G η z0 z.cells.toList := by rw [← hz0]; exact repC_ofC _ hone
            have hzl : z.cells.toList.length = es := by simpa using hzs
            have hrz := reps_rep hz0r undef n
            rw [hzl] at hrz
            obtain ⟨ls, k1, k2⟩ := fill_rep (pv := fun i => some (i * es, es)) (fun i x hx => by simpa using hx) hl hr hrz
            have hll : l.length = n * es := by rw [fillA_len hl, reps_len, ← hz0]; simp [hzl, hzs]
            obtain ⟨c1, c2, c3⟩ := chunk_spec hrows hll
            have hul : ls.length = n * es := by rw [← repC_len k2, hll]
            refine ⟨.slice (some ⟨w.heap.size, 0, none⟩) n n, w.alloc (.cells ls.toArray e), ?_, ?_⟩
            · have h24 : ¬ n * es > 2 ^ 24 := by
                have : n * es ≤ 4096 * 4096 := Nat.mul_le_mul hbd.1 hbd.2
                omega
              have hzz : ∀ (zz : Array Value), zz = (if n * es = 0 then #[] else z.cells) → ((Array.range (n * es)).map (fun x => zz[x % zz.size]!)) = ((List.range (n * es)).map fun j => z.cells.toList.getD (j % es) undef).toArray := by
                intro zz hzz
                apply Array.ext'
                simp only [Array.toList_map, Array.toList_range]
                apply List.map_congr_left
                intro j hj
                have hj : j < n * es := by simpa using hj
                rw [if_neg (by omega)] at hzz
                subst hzz
                have hlt' : j % es < z.cells.size := by rw [hzs]; exact Nat.mod_lt _ hes
                rw [hzs, getElem!_pos z.cells (j % es) hlt']
                simp [List.getD, hlt']
              simp only [Instr.buildSlice, Sem.run_bind, run_underlying hu, Result.andThen_ok, run_sizeOf hi, his, h24, if_false]
              by_cases h0 : n * es = 0
              · have hz' := hzz #[] (by rw [if_pos h0])
                rw [h0] at hz' k1
                simp only [h0, if_true, Sem.run_bind, Sem.run_pure, Result.andThen_ok]
                rw [hz', k1]
                simp only [newRow, Sem.run_bind, run_newObj, Sem.run_pure, Result.andThen_ok]
                rfl
              · have hz' := hzz z.cells (by rw [if_neg h0])
                simp only [h0, if_false, Sem.run_bind, run_zeroValue hi hz, Sem.run_pure, Result.andThen_ok]
                rw [hz', k1]
                simp only [newRow, Sem.run_bind, run_newObj, Sem.run_pure, Result.andThen_ok]
                rfl
            · refine done_new hm hlt hB hk (.inl rfl) (fun g hg => by simp [hb] at hg; omega) (row_new hlt hul ?_ (data_repC (by rw [c1]; exact hd) (by rw [c1]; exact k2)) c2 c3 hes) ⟨put1_same, _, _, _, rfl⟩
              unfold maxLen; omega
          · simp at h
        · simp at h
      · simp at h
    · simp at h
  · simp at h
end
end E
end
section
namespace E
section
variable {P : Program} {w w' : World} {B : Nat} {G : Nat → Prop} {η η' : Nat → Option Value} {hp : Hp}
theorem row_list : ∀ {r : List AV} {b o : Nat}, RepRow w G r b o → ∃ xs : List Value, RepC w G no r xs ∧ ∀ j u, xs[j]? = some u → w.cell? ⟨b, o + j, none⟩ = some u
  | [], b, o, _ => ⟨[], trivial, by simp⟩
  | c :: r, b, o, h => by
    obtain ⟨⟨u, h1, h2, h3⟩, h4⟩ := h
    obtain ⟨xs, k1, k2⟩ := row_list h4
    refine ⟨u :: xs, ⟨⟨h2, h3⟩, k1⟩, fun j x hx => ?_⟩
    cases j with
    | zero =>
      simp only [List.getElem?_cons_zero, Option.some.injEq] at hx
      subst hx
      exact h1
    | succ j =>
      have := k2 j x (by simpa using hx)
      rwa [show o + (j + 1) = o + 1 + j by omega]
theorem rows_list : ∀ {rows : List (List AV)} {b o : Nat}, RepRows w G rows b o → ∃ xs : List Value, RepC w G no rows.flatten xs ∧ ∀ j u, xs[j]? = some u → w.cell? ⟨b, o + j, none⟩ = some u
  | [], b, o, _ => ⟨[], trivial, by simp⟩
  | r :: rows, b, o, h => by
    obtain ⟨xs, h1, h2⟩ := row_list h.1
    obtain ⟨ys, k1, k2⟩ := rows_list h.2
    refine ⟨xs ++ ys, repC_append h1 k1, fun j u hu => ?_⟩
    rw [List.getElem?_append] at hu
    split at hu
    · exact h2 j u hu
    · have := k2 _ u hu
      have hl := repC_len h1
      rwa [show o + r.length + (j - xs.length) = o + j by omega] at this
theorem flat_len {es : Nat} : ∀ {rows : List (List AV)}, (∀ r ∈ rows, r.length = es) → rows.flatten.length = rows.length * es
  | [], _ => by simp
  | r :: rows, h => by
    rw [List.flatten_cons, List.length_append, h r (by simp), flat_len (fun r hr => h r (by simp [hr])), List.length_cons, Nat.add_mul]
    omega
theorem rowsOf_spec {y : AV} {yv : Value} {new : List (List AV)} {es : Nat} (h : rowsOf hp y = some new) (hy : Rep w G η y yv) (hm : Mem w B G η hp) (hes : ∀ r ∈ new, r.length = es) :
    ∃ a c, ∃ news : List Value, yv = .slice a new.length c ∧ news.length = new.length * es ∧ RepC w G no new.flatten news ∧ (a = none → new = []) ∧ ∀ ad, a = some ad → ∀ j u, news[j]? = some u → w.cell? (ad.add j) = some u := by
  unfold rowsOf at h
  split at h
  · simp only [Option.some.injEq] at h
    subst h
    obtain rfl : yv = .slice none 0 0 := hy
    exact ⟨none, 0, [], rfl, by simp, trivial, fun _ => rfl, by simp⟩
  · simp only [Option.some.injEq] at h
    subst h
    obtain ⟨a, n, c, es', rfl, hn, _, _, _, hc⟩ := hy
    subst hn
    rcases hc with rfl | ⟨b, o, rfl, hg, hr⟩
    · exact ⟨a, c, [], rfl, by simp, trivial, fun _ => rfl, by simp⟩
    · obtain ⟨xs, k1, k2⟩ := rows_list hr
      refine ⟨some ⟨b, o, none⟩, c, xs, rfl, by rw [← repC_len k1, flat_len hes], k1, by simp, fun ad had j u hu => ?_⟩
      simp only [Option.some.injEq] at had
      subst had
      rw [addr_add]
      exact k2 j u hu
  · rename_i id
    split at h
    · rename_i e es' rows hl
      simp only [Option.some.injEq] at h
      subst h
      obtain ⟨h1, a, n, c, rfl⟩ := hy
      obtain ⟨hd, h3, h4, _⟩ := hm.rep id _ hl
      rw [h1] at h3
      simp only [Option.some.injEq] at h3
      subst h3
      obtain ⟨xs, h5, h6, h7, h8⟩ := h4
      have hlen : xs.length = rows.length * es := by rw [← repC_len h6, flat_len hes]
      rcases h5.2 with ⟨hh, h0⟩ | ⟨g', cap', cur, h', _⟩
      · simp only [Value.slice.injEq] at hh
        obtain ⟨rfl, rfl, rfl⟩ := hh
        have : rows = [] := List.eq_nil_of_length_eq_zero h0
        subst this
        exact ⟨none, 0, xs, rfl, hlen, h6, fun _ => rfl, by simp⟩
      · simp only [Value.slice.injEq] at h'
        obtain ⟨rfl, rfl, rfl⟩ := h'
        refine ⟨some ⟨g', 0, none⟩, _, xs, rfl, hlen, h6, by simp, fun ad had j u hu => ?_⟩
        simp only [Option.some.injEq] at had
        subst had
        exact h5.cells rfl j u hu
    · simp at h
  · rename_i a c
    simp only [Option.some.injEq] at h
    subst h
    exact ⟨a, c, [], hy, by simp, trivial, fun _ => rfl, by simp⟩
  · simp at h
theorem bytesOf_spec : ∀ {rows : List (List AV)} {l : List Int} {news : List Value}, bytesOf rows = some l → RepC w G no rows.flatten news → (∀ r ∈ rows, r.length = 1) ∧ rows.length = l.length ∧ news = l.map (Value.int .u8)
  | [], l, news, h, hr => by
    simp only [bytesOf, Option.some.injEq] at h
    subst h
    cases news with
    | nil => exact ⟨by simp, rfl, rfl⟩
    | cons _ _ => exact hr.elim
  | r :: rs, l, news, h, hr => by
    unfold bytesOf at h
    split at h
    · rename_i e; cases e
    · rename_i n rs' e
      cases e
      split at h
      · rename_i l' hl
        simp only [Option.some.injEq] at h
        subst h
        cases news with
        | nil => exact hr.elim
        | cons v vs =>
          obtain ⟨⟨_, h1⟩, h2⟩ := hr
          obtain rfl : v = .int .u8 n := h1
          obtain ⟨i1, i2, rfl⟩ := bytesOf_spec (news := vs) hl h2
          refine ⟨fun r hr => ?_, by simp [i2], rfl⟩
          rcases List.mem_cons.1 hr with rfl | hr
          · rfl
          · exact i1 r hr
      · simp at h
    · simp at h
theorem bytesOf_one : ∀ {rows : List (List AV)} {l : List Int}, bytesOf rows = some l → ∀ r ∈ rows, r.length = 1
  | [], l, h => by simp
  | r :: rs, l, h => by
    unfold bytesOf at h
    split at h
    · rename_i e; cases e
    · rename_i n rs' e
      cases e
      split at h
      · rename_i l' hl
        intro r hr
        rcases List.mem_cons.1 hr with rfl | hr
        · rfl
        · exact bytesOf_one hl r hr
      · simp at h
    · simp at h
theorem sound_convB {s t : TypeId} {x r : AV} {u : Upd} {xv : Value} (h : aConvB hp (ti P (elemT (ti P s))) (ti P s) (ti P t) x = some (r, u)) (hx : Rep w G η x xv) (hm : Mem w B G η hp) : Yd P w G η r u (convert s t xv) := by
  unfold aConvB at h
  split at h
  · rename_i he hs ht
    split at h
    · rename_i rows hr
      split at h
      · rename_i l hl
        split at h
        · rename_i h1
          subst h1
          rw [hs] at he
          have he' := ti_int (show ti P _ = _ from he)
          obtain ⟨hu, _⟩ := ti_slice hs
          obtain ⟨a, c, news, rfl, k1, k2, k3, k4⟩ := rowsOf_spec hr hx hm (bytesOf_one hl)
          obtain ⟨_, j1, rfl⟩ := bytesOf_spec hl k2
          refine yd_val h ?_ rfl
          cases a with
          | none =>
            have e0 := k3 rfl
            subst e0
            have : l = [] := List.eq_nil_of_length_eq_zero (by simpa using j1.symm)
            subst this
            rw [run_convert_bytes_nil w s _ hu he' _ _ t (ti_str ht)]
            rfl
          | some ad =>
            have hld : (loadCells ad rows.length).run P w = .ok (l.map (Value.int .u8)).toArray w := by
              have := run_loadCells_list (P := P) w ad (l.map (Value.int .u8)) (fun j v hj => k4 ad rfl j v hj)
              simpa [j1] using this
            rw [run_convert_bytes_string w s t _ _ rows.length c hu he' (ti_str ht), run_bytesToString w _ rows.length c l hld, foldl_push_bytes]
            simp [strI, ByteArray.empty, ByteArray.emptyWithCapacity]
            rfl
        · simp at h
      · simp at h
    · simp at h
  · simp at h
theorem sound_convX {s t : TypeId} {x r : AV} {u : Upd} {xv : Value} (h : aConvX hp (ti P (elemT (ti P s))) (ti P s) (ti P t) x = some (r, u)) (hx : Rep w G η x xv) (hm : Mem w B G η hp) : Yd P w G η r u (convert s t xv) := by
  unfold aConvX at h
  split at h
  · exact sound_convB h hx hm
  · exact sound_convB h hx hm
  · exact sound_conv h hx
theorem run_append_zero {t ty e : TypeId} {i : TypeInfo} (ht : P.underlying t = some (.slice e)) (hi : P.info? e = some i) {n c : Nat} {v : Value} {xs : List Value} {base es : Nat} {a : Option Addr} (hown : w.ownsRow base e es v n xs) :
    (Builtin.append_ #[t, t] ty #[v, .slice a 0 c]).run P w = .ok v w := by
  have hf : ∀ sz, (Builtin.firstCells sz 0 (.slice a 0 c)).run P w = .ok #[] w := by
    intro sz
    cases a with
    | none => exact run_firstCells_none w sz 0 0 c
    | some ad => exact run_firstCells_some w sz 0 ad 0 c [] (by simp) (by simp)
  rcases hown.2 with ⟨rfl, rfl⟩ | ⟨g, cap, cur, rfl, _, _, hnc, _⟩
  · simp [Builtin.append_, run_underlying ht, sizeOf, typeInfo, hi, Builtin.lenOf, hf]
  · simp [Builtin.append_, run_underlying ht, sizeOf, typeInfo, hi, Builtin.lenOf, hnc, hf, storeCells]
theorem grown_row {e es n m cap : Nat} {i : TypeInfo} {z : Value} {xs news : List Value} (hxs : xs.length = n * es) (hl : news.length = m * es) (hzs : z.cells.size = es) (hcap : n + m ≤ cap) (hcm : cap ≤ maxLen) :
    (w.drew.alloc (.cells (xs.toArray ++ news.toArray ++ Builtin.zeroCells z.cells (cap - (n + m))) e)).ownsRow 0 e es (.slice (some ⟨w.heap.size, 0, none⟩) (n + m) cap) (n + m) (xs ++ news) := by
  have hlen : (xs ++ news).length = (n + m) * es := by rw [List.length_append, hxs, hl, Nat.add_mul]
  refine ⟨hlen, .inr ⟨w.heap.size, cap, _, rfl, Nat.zero_le _, heap_alloc_new w.drew _, hcap, hcm, ?_, ?_⟩⟩
  · simp only [Array.size_append, List.size_toArray, size_zeroCells, hzs, hxs, hl, ← Nat.add_mul]
    congr 1
    omega
  · simp only [Array.toList_append, List.append_assoc]
    rw [← List.append_assoc, ← hlen]
    exact List.take_left
set_option maxHeartbeats 400000 in
theorem sound_append {t ty : TypeId} {k : Nat} {x y r : AV} {u : Upd} {xv yv : Value} (h : aAppend hp k (ti P t) x y = some (r, u)) (hx : Rep w G η x xv) (hy : Rep w G η y yv)
    (hm : Mem w B G η hp) (hlt : ∀ b, G b → b < w.heap.size) (hB : B ≤ w.heap.size) (hk : η k = none) : ∃ v w', (Builtin.append_ #[t, t] ty #[xv, yv]).run P w = .ok v w' ∧ Done w B G η hp k r u v w' := by
  unfold aAppend maxR at h
  split at h
  · rename_i e es by' z0 _ _ _ new ht hnew
    obtain ⟨hu, i, z, hi, hz, hone, hzs, his, hby, hes, hz0⟩ := ti_slice ht
    split at h
    · rename_i hc
      obtain ⟨hb4, hall⟩ := hc
      have hrow : ∀ r ∈ new, r.length = es := fun r hr => by
        have := List.all_eq_true.1 hall r hr
        simp only [Bool.and_eq_true, beq_iff_eq] at this
        exact this.1
      obtain ⟨a, c, news, rfl, hnl, hnr, han, hcell⟩ := rowsOf_spec hnew hy hm hrow
      have hmul : ∀ q, q ≤ 4294967296 → q * i.bytes ≤ 140737488355328 := fun q hq => by
        have := Nat.mul_le_mul hq (show i.bytes ≤ 4096 by omega)
        omega
      have stay : ∀ (v : Value) (xs : List Value) (rows : List (List AV)), rows.length = 0 → w.ownsRow 0 e es v 0 xs → hb v = none → RepB w G (put1 η k v) (.row e es rows) v := by
        intro v xs rows hr hv hbv
        have : rows = [] := List.eq_nil_of_length_eq_zero hr
        subst this
        have hxs : xs = [] := List.eq_nil_of_length_eq_zero (by simpa using hv.1)
        subst hxs
        exact ⟨[], hv, trivial, by simp, hes⟩
      split at h
      · obtain rfl : xv = .slice none 0 0 := hx
        split at h
        · rename_i hlen
          simp only [Option.some.injEq, Prod.mk.injEq] at h
          obtain ⟨rfl, rfl⟩ := h
          by_cases h0 : new = []
          · subst h0
            refine ⟨.slice none 0 0, w, run_append_zero hu hi (World.ownsRow_nil w 0 e es), put1 η k (.slice none 0 0), put1_ge hk, fun id h => ?_, ⟨put1_same, _, _, _, rfl⟩, ?_, Below.refl _ _, fun _ _ => rfl⟩
            · unfold put1 at h
              split at h
              · exact .inr ‹_›
              · exact .inl h
            · exact hm.new hlt hB hk (fun _ _ => rfl) (fun g hg => by simp [hb] at hg) (stay _ [] [] rfl (World.ownsRow_nil w 0 e es) rfl)
          · have hpos : 0 < new.length := List.length_pos_iff.2 h0
            obtain ⟨ad, rfl⟩ : ∃ ad, a = some ad := by
              cases a with
              | none => exact absurd (han rfl) h0
              | some ad => exact ⟨ad, rfl⟩
            have hr := run_append_nil (P := P) w t ty e i z hu hi hz ad new.length c news (by rw [his]; exact hnl) (hcell ad rfl) hpos (by omega) (by have := hmul _ hlen; omega)
            have hge := grownCap_ge w new.length 0 e
            have hcm := grownCap_le_maxLen w new.length 0 e (by unfold maxLen; omega)
            have hrowN := grown_row (w := w) (e := e) (n := 0) (xs := []) (i := i) (by simp) hnl hzs (by simpa using hge) hcm
            simp only [Nat.zero_add, List.nil_append, Array.empty_append] at hrowN
            refine ⟨_, _, hr, done_new hm hlt hB hk (.inr rfl) (fun g hg => by simp [hb] at hg; omega) ⟨news, hrowN, ?_, hrow, hes⟩ ⟨put1_same, _, _, _, rfl⟩⟩
            have hUp : Up w (w.drew.alloc (.cells (news.toArray ++ Builtin.zeroCells z.cells (grownCap w new.length 0 e - new.length)) e)) G G := fun b hb => ⟨hb, Below.heap_alloc w.drew _ _ (hlt b hb)⟩
            exact RepC.up hUp (fun _ _ h => h) _ _ hnr
        · simp at h
      · rename_i id
        split at h
        · rename_i e' es' rows hl
          split at h
          · rename_i hc2
            obtain ⟨rfl, rfl, hlen⟩ := hc2
            simp only [Option.some.injEq, Prod.mk.injEq] at h
            obtain ⟨rfl, rfl⟩ := h
            obtain ⟨h1, a', n', c', rfl⟩ := hx
            obtain ⟨hd, h3, h4, h5⟩ := hm.rep id _ hl
            rw [h1] at h3
            simp only [Option.some.injEq] at h3
            subst h3
            obtain ⟨xs, j1, j2, j3, j4⟩ := h4
            have hrows' : ∀ r ∈ rows ++ new, r.length = es' := fun r hr => by
              rcases List.mem_append.1 hr with hr | hr
              · exact j3 r hr
              · exact hrow r hr
            have hfl : RepC w G no (rows ++ new).flatten (xs ++ news) := by
              rw [List.flatten_append]
              exact repC_append j2 hnr
            have hln : (rows ++ new).length = rows.length + new.length := by simp
            have fin : ∀ (v' : Value) (w1 : World), (Builtin.append_ #[t, t] ty #[.slice a' n' c', .slice a new.length c]).run P w = .ok v' w1 → w1.ownsRow 0 e' es' v' (rows.length + new.length) (xs ++ news) →
                (∀ i, i < w.heap.size → some i ≠ hb (.slice a' n' c') → w1.heap[i]? = w.heap[i]?) → (∀ g, hb v' = some g → hb (.slice a' n' c') = some g ∨ w.heap.size ≤ g) → Below B w w1 →
                (∃ A N C, v' = .slice A N C) → ∃ v w', (Builtin.append_ #[t, t] ty #[.slice a' n' c', .slice a new.length c]).run P w = .ok v w' ∧ Done w B G η hp k (.own k) (.move id k (.row e' es' (rows ++ new))) v w' := by
              intro v' w1 hr hrow1 hw1 hv1 hbel hsl
              have hUp : Up w w1 G G := fun b hG => ⟨hG, hw1 b (hlt b hG) (fun e => (h5 b e.symm).2 hG)⟩
              refine ⟨v', w1, hr, put1 η k v', put1_ge hk, fun id h => ?_, ⟨put1_same, hsl⟩, ?_, hbel, fun b hG => (hUp b hG).2⟩
              · unfold put1 at h
                split at h
                · exact .inr ‹_›
                · exact .inl h
              · refine hm.moved hlt hB hl h1 hk hw1 hv1 ⟨xs ++ news, by rw [hln]; exact hrow1, RepC.up hUp (fun _ _ h => h) _ _ hfl, hrows', j4⟩
            by_cases h0 : new = []
            · subst h0
              have hn0 : news = [] := List.eq_nil_of_length_eq_zero (by simpa using hnl)
              subst hn0
              refine fin _ w (run_append_zero hu hi j1) (by simpa using j1) (fun _ _ _ => rfl) (fun g hg => .inl hg) (Below.refl _ _) ⟨_, _, _, rfl⟩
            · have hpos : 0 < new.length := List.length_pos_iff.2 h0
              obtain ⟨ad, rfl⟩ : ∃ ad, a = some ad := by
                cases a with
                | none => exact absurd (han rfl) h0
                | some ad => exact ⟨ad, rfl⟩
              have h1n : ∀ u ∈ news, u.oneCell' = true := repC_one hnr
              rcases j1.2 with ⟨hh, hz0'⟩ | ⟨g, cap, cur, hh, b0, b1, b2, b3, b4, b5⟩
              · simp only [Value.slice.injEq] at hh
                obtain ⟨rfl, rfl, rfl⟩ := hh
                have hxs : xs = [] := List.eq_nil_of_length_eq_zero (by rw [j1.1, hz0']; simp)
                subst hxs
                have hr := run_append_nil (P := P) w t ty e' i z hu hi hz ad new.length c news (by rw [his]; exact hnl) (hcell ad rfl) hpos (by omega) (by have := hmul new.length (by omega); omega)
                have hge := grownCap_ge w new.length 0 e'
                have hcm := grownCap_le_maxLen w new.length 0 e' (by unfold maxLen; omega)
                have hrowN := grown_row (w := w) (e := e') (n := 0) (xs := []) (i := i) (by simp) hnl hzs (by simpa using hge) hcm
                simp only [Nat.zero_add, List.nil_append, Array.empty_append] at hrowN
                exact fin _ _ hr (by rw [hz0']; simpa using hrowN) (fun j hj _ => Below.heap_alloc w.drew _ _ hj) (fun g hg => .inr (by simp [hb] at hg; omega)) ((Below.refl _ _).drew.alloc hB _) ⟨_, _, _, rfl⟩
              · simp only [Value.slice.injEq] at hh
                obtain ⟨rfl, rfl, rfl⟩ := hh
                have hg2 := h5 g rfl
                by_cases hroom : rows.length + new.length ≤ c'
                · obtain ⟨w1, r1, r2, r3⟩ := run_append_fits (P := P) w 0 t ty e' i es' hu hi his g rows.length c' xs j1 ad new.length c news hnl (hcell ad rfl) h1n hroom
                  exact fin _ w1 r1 r2 (fun j hj hne => r3.block j hj hne) (fun g hg => .inl hg) ((Below.refl _ _).grown r3 hB (fun q hq => by simp only [Option.some.injEq] at hq; omega)) ⟨_, _, _, rfl⟩
                · have hr := run_append_grow (P := P) w t ty e' i z hu hi hz ⟨g, 0, none⟩ rows.length c' xs (by rw [his]; exact j1.1) (j1.cells rfl) ad new.length c news (by rw [his]; exact hnl) (hcell ad rfl) (by omega) (by omega)
                    (growslice_fits (by omega) (hmul _ hlen))
                  have hge := grownCap_ge w (rows.length + new.length) c' e'
                  have hcm := grownCap_le_maxLen w (rows.length + new.length) c' e' (by unfold maxLen; omega)
                  exact fin _ _ hr (grown_row (w := w) (e := e') (i := i) j1.1 hnl hzs hge hcm) (fun j hj _ => Below.heap_alloc w.drew _ _ hj) (fun g hg => .inr (by simp [hb] at hg; omega)) ((Below.refl _ _).drew.alloc hB _) ⟨_, _, _, rfl⟩
          · simp at h
        · simp at h
      · simp at h
    · simp at h
  · simp at h
theorem rows_drop {es : Nat} : ∀ {rows : List (List AV)} {b o l : Nat}, (∀ r ∈ rows, r.length = es) → RepRows w G rows b o → RepRows w G (rows.drop l) b (o + l * es)
  | rows, b, o, 0, h, hr => by simpa using hr
  | [], b, o, l + 1, h, hr => by simp [RepRows]
  | r :: rows, b, o, l + 1, h, hr => by
    have := rows_drop (es := es) (l := l) (fun r hr => h r (by simp [hr])) hr.2
    rw [h r (by simp)] at this
    rw [List.drop_succ_cons, show o + (l + 1) * es = o + es + l * es by rw [Nat.add_mul]; omega]
    exact this
theorem rows_take : ∀ {rows : List (List AV)} {b o l : Nat}, RepRows w G rows b o → RepRows w G (rows.take l) b o
  | rows, b, o, 0, hr => by simp [RepRows]
  | [], b, o, l + 1, hr => by simp [RepRows]
  | r :: rows, b, o, l + 1, hr => ⟨hr.1, rows_take hr.2⟩
theorem num_rep {v : AV} {n : Int} {x : Value} (h : num v = some n) (hx : Rep w G η v x) : ∃ k, x = .int k n := by
  unfold num at h
  split at h
  · simp only [Option.some.injEq] at h
    subst h
    exact ⟨_, hx⟩
  · simp at h
def Bd (ev : Operand → Value) (o : Option Operand) (d L : Int) : Prop :=
  match o with
  | none => L = d
  | some l => ∃ k, ev l = .int k L
theorem sound_slice {t : TypeId} {x : Operand} {lo hi mx : Option Operand} {ev : Operand → Value} {s : Operand → AV} {r : AV} {u : Upd} (hs : ∀ x, Rep w G η (s x) (ev x))
    (h : aSlice hp (ti P t) lo hi mx ((x :: (lo.toList ++ hi.toList ++ mx.toList)).map s) = some (r, u)) : Yd P w G η r u (Instr.sliceAt t (ev x) (lo.map ev) (hi.map ev) (mx.map ev)) := by
  have hx := hs x
  have bounds : ∀ (isS : Bool) (len cap : Nat) (L H : Int), mx = none → Bd ev lo 0 L → Bd ev hi len H →
      0 ≤ L → L ≤ H → H ≤ (len : Int) → len ≤ cap → (Instr.sliceBounds isS len cap (lo.map ev) (hi.map ev) none).run P w = .ok (L.toNat, H.toNat, cap) w := by
    intro isS len cap L H hmx hL hH h0 h1 h2 h3
    unfold Instr.sliceBounds
    cases lo with
    | none =>
      obtain rfl : L = 0 := hL
      cases hi with
      | none =>
        obtain rfl : H = len := hH
        simp
      | some q =>
        obtain ⟨k, hk⟩ := hH
        have : 0 ≤ H ∧ H ≤ (cap : Int) := ⟨by omega, by omega⟩
        simp [hk, Instr.sliceBound, asIntOf, this]
    | some l =>
      obtain ⟨k, hk⟩ := hL
      cases hi with
      | none =>
        obtain rfl : H = len := hH
        have : 0 ≤ L ∧ L ≤ (len : Int) := ⟨by omega, by omega⟩
        simp [hk, Instr.sliceBound, asIntOf, this]
      | some q =>
        obtain ⟨k', hk'⟩ := hH
        have a1 : 0 ≤ H ∧ H ≤ (cap : Int) := ⟨by omega, by omega⟩
        have a2 : 0 ≤ L ∧ L ≤ ((H.toNat : Nat) : Int) := ⟨by omega, by omega⟩
        simp [hk, hk', Instr.sliceBound, asIntOf, a1, h0]
        intro hh
        exfalso
        omega
  have pars : ∀ (d : Int) (L : Int) (vs : List AV) (H : Int) (vs' : List AV), mx = none → bnd lo 0 ((lo.toList ++ hi.toList ++ mx.toList).map s) = some (L, vs) → bnd hi d vs = some (H, vs') →
      Bd ev lo 0 L ∧ Bd ev hi d H := by
    intro d L vs H vs' hmx h1 h2
    subst hmx
    cases lo with
    | none =>
      simp only [bnd, Option.some.injEq, Prod.mk.injEq] at h1
      obtain ⟨rfl, rfl⟩ := h1
      refine ⟨rfl, ?_⟩
      cases hi with
      | none =>
        simp only [bnd, Option.some.injEq, Prod.mk.injEq] at h2
        exact h2.1.symm
      | some q =>
        simp only [Option.toList_none, Option.toList_some, List.nil_append, List.append_nil, List.map_cons, List.map_nil, bnd] at h2
        split at h2
        · simp only [Option.some.injEq, Prod.mk.injEq] at h2
          obtain ⟨rfl, rfl⟩ := h2
          exact num_rep ‹_› (hs q)
        · simp at h2
    | some l =>
      simp only [Option.toList_some, List.cons_append, List.nil_append, List.map_cons, bnd] at h1
      split at h1
      · rename_i n hn
        simp only [Option.some.injEq, Prod.mk.injEq] at h1
        obtain ⟨rfl, rfl⟩ := h1
        refine ⟨num_rep hn (hs l), ?_⟩
        cases hi with
        | none =>
          simp only [bnd, Option.some.injEq, Prod.mk.injEq] at h2
          exact h2.1.symm
        | some q =>
          simp only [Option.toList_none, Option.toList_some, List.nil_append, List.append_nil, List.map_cons, List.map_nil, bnd] at h2
          split at h2
          · simp only [Option.some.injEq, Prod.mk.injEq] at h2
            obtain ⟨rfl, rfl⟩ := h2
            exact num_rep ‹_› (hs q)
          · simp at h2
      · simp at h1
  unfold aSlice at h
  split at h
  · rename_i b vs ht hv
    simp only [List.map_cons, List.cons.injEq] at hv
    obtain ⟨hv1, hv2⟩ := hv
    subst hv2
    rw [hv1] at hx
    obtain hx : ev x = .string b := hx
    split at h
    · rename_i L vs' hb
      split at h
      · rename_i H vs'' hb2
        split at h
        · rename_i hc
          obtain ⟨p1, p2⟩ := pars _ _ _ _ _ rfl hb hb2
          refine yd_val h ?_ rfl
          have := bounds false b.size b.size L H rfl p1 p2 hc.1 hc.2.1 hc.2.2 (Nat.le_refl _)
          simp only [hx, Instr.sliceAt, Instr.slice, Sem.run_bind, run_underlying (ti_str ht), Result.andThen_ok, Option.map_none, Option.isSome_none, Bool.false_eq_true, if_false, Sem.run_pure, this]
        · simp at h
      · simp at h
    · simp at h
  · rename_i e es by' z0 _ _ _ rows vs ht hv
    simp only [List.map_cons, List.cons.injEq] at hv
    obtain ⟨hv1, hv2⟩ := hv
    subst hv2
    rw [hv1] at hx
    obtain ⟨a, n, c, es', hxv, hn, hnc, hc63, hrow, hcont⟩ := hx
    obtain ⟨hu, i, z, hi', hz, hone, hzs, his, hby, hes, hz0⟩ := ti_slice ht
    split at h
    · rename_i L vs' hb
      split at h
      · rename_i H vs'' hb2
        split at h
        · rename_i hc
          obtain ⟨p1, p2⟩ := pars _ _ _ _ _ rfl hb hb2
          obtain ⟨rfl, rfl⟩ := pure1_eq h
          subst hn
          have := bounds true rows.length c L H rfl p1 p2 hc.1 hc.2.1 hc.2.2.1 hnc
          have hlen : ((rows.take H.toNat).drop L.toNat).length = H.toNat - L.toNat := by
            rw [List.length_drop, List.length_take]
            omega
          refine ⟨rfl, .slice (if c = L.toNat then a else a.map (·.add (L.toNat * i.size))) (H.toNat - L.toNat) (c - L.toNat), ?_, ?_⟩
          · simp only [hxv, Instr.sliceAt, Instr.slice, Sem.run_bind, run_underlying hu, Result.andThen_ok, Option.map_none, Sem.run_pure, this, run_sizeOf hi']
          · refine ⟨_, _, _, es', rfl, hlen, by omega, by omega, fun r hr => hrow r (List.mem_of_mem_take (List.mem_of_mem_drop hr)), ?_⟩
            by_cases hnil : (rows.take H.toNat).drop L.toNat = []
            · exact .inl hnil
            · right
              have hpos : 0 < H.toNat - L.toNat := by rw [← hlen]; exact List.length_pos_iff.2 hnil
              rcases hcont with rfl | ⟨b, o, rfl, hg, hr⟩
              · simp at hnil
              · rw [if_neg (by omega)]
                refine ⟨b, o + L.toNat * es', ?_, hg, rows_drop (fun r hr => hrow r (List.mem_of_mem_take hr)) (rows_take hr)⟩
                rcases hc.2.2.2 with h0 | hall
                · subst h0
                  simp [addr_add]
                · have hese : es' = i.size := by
                    have hne : 0 < rows.length := by omega
                    have hm0 : rows[0] ∈ rows := List.getElem_mem hne
                    have := List.all_eq_true.1 hall _ hm0
                    simp only [beq_iff_eq] at this
                    rw [his, ← this, hrow _ hm0]
                  simp [addr_add, hese]
        · simp at h
      · simp at h
    · simp at h
  · simp at h
end
end E
end
section
namespace E
section
variable {P : Program} {w w' : World} {B : Nat} {G : Nat → Prop} {η η' : Nat → Option Value} {hp : Hp}
theorem Yd.exec {o : Oper} {ev : Operand → Value} {k : Nat} {r : AV} {u : Upd} {m : Sem Value} (h : Yd P w G η r u m) (hm : Mem w B G η hp) (he : execOp ev o = (do pure (.value (← m)))) :
    ∃ v w', ((execOp ev o).run P w = .ok (.value v) w' ∨ ((execOp ev o).run P w = .ok .skip w' ∧ v = undef)) ∧ Done w B G η hp k r u v w' := by
  obtain ⟨v, h1, h2⟩ := h.done (k := k) hm
  refine ⟨v, w, .inl ?_, h2⟩
  rw [he]
  simp only [Sem.run_bind, h1, Result.andThen_ok, Sem.run_pure]
theorem exec_val {o : Oper} {ev : Operand → Value} {k : Nat} {r : AV} {u : Upd} {m : Sem Value} (h : ∃ v w', m.run P w = .ok v w' ∧ Done w B G η hp k r u v w') (he : execOp ev o = (do pure (.value (← m)))) :
    ∃ v w', ((execOp ev o).run P w = .ok (.value v) w' ∨ ((execOp ev o).run P w = .ok .skip w' ∧ v = undef)) ∧ Done w B G η hp k r u v w' := by
  obtain ⟨v, w', h1, h2⟩ := h
  refine ⟨v, w', .inl ?_, h2⟩
  rw [he]
  simp only [Sem.run_bind, h1, Result.andThen_ok, Sem.run_pure]
theorem repL_map {s : Operand → AV} {ev : Operand → Value} (h : ∀ x, Rep w G η (s x) (ev x)) : ∀ l : List Operand, RepL w G η (l.map s) (l.map ev)
  | [] => trivial
  | x :: l => ⟨h x, repL_map h l⟩
set_option maxHeartbeats 2000000 in
theorem astep_exec {o : Oper} {s : Operand → AV} {ev : Operand → Value} {k : Nat} {r : AV} {u : Upd} (hs : ∀ x, Rep w G η (s x) (ev x)) (h : astep P o.op k ((opnds o.op).map s) hp = some (r, u))
    (hm : Mem w B G η hp) (hlt : ∀ b, G b → b < w.heap.size) (hB : B ≤ w.heap.size) (hk : η k = none) :
    ∃ v w', ((execOp ev o).run P w = .ok (.value v) w' ∨ ((execOp ev o).run P w = .ok .skip w' ∧ v = undef)) ∧ Done w B G η hp k r u v w' := by
  obtain ⟨dst, op, type, pos, after, guard⟩ := o
  cases op
  case move x =>
    simp only [opnds, List.map_cons, List.map_nil, astep] at h
    obtain ⟨rfl, rfl⟩ := pure1_eq h
    exact ⟨ev x, w, .inl rfl, η, fun _ _ h => h, fun _ h => .inl h, hs x, hm, Below.refl _ _, fun _ _ => rfl⟩
  case assign x =>
    simp only [opnds, List.map_cons, List.map_nil, astep] at h
    obtain ⟨rfl, rfl⟩ := pure1_eq h
    exact ⟨ev x, w, .inl rfl, η, fun _ _ h => h, fun _ h => .inl h, hs x, hm, Below.refl _ _, fun _ _ => rfl⟩
  case pick c a b =>
    simp only [opnds, List.map_cons, List.map_nil, astep] at h
    have hc := hs c
    have ha := hs a
    have hb := hs b
    generalize s c = sc at h hc
    generalize s a = sa at h ha
    generalize s b = sb at h hb
    unfold aPick at h
    split at h
    · obtain ⟨rfl, rfl⟩ := pure1_eq h
      obtain hc : ev c = .bool true := hc
      refine ⟨ev a, w, .inl ?_, η, fun _ _ h => h, fun _ h => .inl h, ha, hm, Below.refl _ _, fun _ _ => rfl⟩
      simp only [execOp, hc, asBool, Sem.run_bind, Sem.run_pure, Result.andThen_ok, if_true]
    · obtain ⟨rfl, rfl⟩ := pure1_eq h
      obtain hc : ev c = .bool false := hc
      refine ⟨ev b, w, .inl ?_, η, fun _ _ h => h, fun _ h => .inl h, hb, hm, Below.refl _ _, fun _ _ => rfl⟩
      simp only [execOp, hc, asBool, Sem.run_bind, Sem.run_pure, Result.andThen_ok, Bool.false_eq_true, if_false]
    · simp at h
  case alloc t =>
    simp only [opnds, List.map_nil, astep] at h
    split at h
    · rename_i x hx
      simp only [Option.some.injEq, Prod.mk.injEq] at h
      obtain ⟨rfl, rfl⟩ := h
      exact exec_val (sound_alloc hx hm hlt hB hk) rfl
    · simp at h
  case box t x =>
    simp only [opnds, List.map_cons, List.map_nil, astep] at h
    split at h
    · rename_i cs hc
      simp only [Option.some.injEq, Prod.mk.injEq] at h
      obtain ⟨rfl, rfl⟩ := h
      exact exec_val (sound_box hc (hs x) hm hlt hB hk) rfl
    · simp at h
  case build t ps =>
    simp only [opnds, astep] at h
    refine Yd.exec (m := Instr.build t (ps.map fun (i, x) => (i, ev x))) (sound_build h ?_) hm rfl
    have := zip_rel (ps := ps.toList) (az := (ps.toList.map (·.2)).map s) rfl hs
    simpa using this
  case buildSlice t n ps =>
    simp only [opnds, astep] at h
    refine exec_val (m := Instr.buildSlice t n (ps.map fun (i, x) => (i, ev x))) (sound_buildSlice h ?_ hm hlt hB hk) rfl
    have := zip_rel (ps := ps.toList) (az := (ps.toList.map (·.2)).map s) rfl hs
    simpa using this
  case load t a =>
    simp only [opnds, List.map_cons, List.map_nil, astep] at h
    exact Yd.exec (sound_load h (hs a) hm) hm rfl
  case store t a x =>
    simp only [opnds, List.map_cons, List.map_nil, astep] at h
    obtain ⟨w', h1, h2⟩ := sound_store (k := k) h (hs a) (hs x) hm
    refine ⟨undef, w', .inr ⟨?_, rfl⟩, h2⟩
    simp only [execOp, Sem.run_bind, h1, Result.andThen_ok, Sem.run_pure]
  case nilCheck x =>
    simp only [opnds, List.map_cons, List.map_nil, astep] at h
    have hx := hs x
    split at h
    · rename_i heq
      obtain ⟨rfl, rfl⟩ := pure1_eq h
      rw [heq] at hx
      have hx' := hx
      obtain ⟨b, _, hb2⟩ := hx
      exact ⟨ev x, w, .inl (by simp only [execOp, hb2, Sem.run_pure]), η, fun _ _ h => h, fun _ h => .inl h, heq ▸ hx', hm, Below.refl _ _, fun _ _ => rfl⟩
    · rename_i heq
      obtain ⟨rfl, rfl⟩ := pure1_eq h
      rw [heq] at hx
      have hx' := hx
      obtain ⟨b, n, c, _, hb2⟩ := hx
      exact ⟨ev x, w, .inl (by simp only [execOp, hb2, Sem.run_pure]), η, fun _ _ h => h, fun _ h => .inl h, heq ▸ hx', hm, Below.refl _ _, fun _ _ => rfl⟩
    · rename_i heq
      obtain ⟨rfl, rfl⟩ := pure1_eq h
      rw [heq] at hx
      have hx' := hx
      obtain ⟨b, o, hb2, _⟩ := hx
      exact ⟨ev x, w, .inl (by simp only [execOp, hb2, Sem.run_pure]), η, fun _ _ h => h, fun _ h => .inl h, heq ▸ hx', hm, Below.refl _ _, fun _ _ => rfl⟩
    · rename_i heq
      obtain ⟨rfl, rfl⟩ := pure1_eq h
      rw [heq] at hx
      have hx' := hx
      obtain ⟨v1, v2, hb2, _⟩ := hx
      exact ⟨ev x, w, .inl (by simp only [execOp, hb2, Sem.run_pure]), η, fun _ _ h => h, fun _ h => .inl h, heq ▸ hx', hm, Below.refl _ _, fun _ _ => rfl⟩
    · simp at h
  case binOp op t x y t' =>
    simp only [opnds, List.map_cons, List.map_nil, astep] at h
    exact Yd.exec (sound_binT (ox := x) (oy := y) h (hs x) (hs y)) hm rfl
  case unOp op t x =>
    simp only [opnds, List.map_cons, List.map_nil, astep] at h
    exact Yd.exec (sound_un h (hs x)) hm rfl
  case convert a b x =>
    simp only [opnds, List.map_cons, List.map_nil, astep] at h
    exact Yd.exec (sound_convX h (hs x) hm) hm rfl
  case makeFunc fn a c =>
    cases fn <;> try (simp only [astep, reduceCtorEq] at h; done)
    rename_i f
    simp only [opnds, List.map_append, astep] at h
    obtain ⟨rfl, rfl⟩ := pure1_eq h
    refine ⟨.func (.func f) (a.map ev) (c.map ev), w, .inl rfl, η, fun _ _ h => h, fun _ h => .inl h, ?_, hm, Below.refl _ _, fun _ _ => rfl⟩
    refine ⟨a.toList.map ev, c.toList.map ev, by congr 1 <;> (apply Array.ext'; simp), ?_, ?_⟩
    · have := repL_map hs a.toList
      simpa [List.take_append] using this
    · have := repL_map hs c.toList
      simpa [List.drop_append] using this
  case slice t x lo hi mx =>
    simp only [opnds, astep] at h
    exact Yd.exec (sound_slice hs h) hm rfl
  case fieldAddr t x f =>
    simp only [opnds, List.map_cons, List.map_nil, astep] at h
    exact Yd.exec (sound_fieldAddr h (hs x)) hm rfl
  case field t x f =>
    simp only [opnds, List.map_cons, List.map_nil, astep] at h
    exact Yd.exec (sound_field h (hs x)) hm rfl
  case indexAddr t x i =>
    simp only [opnds, List.map_cons, List.map_nil, astep] at h
    exact Yd.exec (sound_indexAddr h (hs x) (hs i) hm) hm rfl
  case index t x i =>
    simp only [opnds, List.map_cons, List.map_nil, astep] at h
    exact Yd.exec (sound_index h (hs x) (hs i)) hm rfl
  case extract x i =>
    simp only [opnds, List.map_cons, List.map_nil] at h
    have hx := hs x
    generalize s x = c at h hx
    cases c <;> try (simp only [astep, reduceCtorEq] at h; done)
    simp only [astep] at h
    split at h
    · rename_i v hv
      exact Yd.exec (sound_extract hv h hx) hm rfl
    · simp at h
  case call c =>
    obtain ⟨cal, args, ts⟩ := c
    cases cal <;> try (simp only [astep, reduceCtorEq] at h; done)
    rename_i b
    simp only [opnds, astep] at h
    unfold aBuiltin at h
    split at h
    · rename_i t x hts hvs
      have hts' : ts = #[t] := by rw [← Array.toArray_toList (xs := ts), hts]
      obtain ⟨x', hx', hxx⟩ : ∃ x', args = #[x'] ∧ s x' = x := by
        match hA : args.toList, hvs with
        | [x'], hvs => exact ⟨x', by rw [← Array.toArray_toList (xs := args), hA], by simpa [hA] using hvs⟩
        | [], hvs => simp [hA] at hvs
        | _ :: _ :: _, hvs => simp [hA] at hvs
      subst hx' hxx hts'
      refine exec_val (m := Builtin.len_ #[t] type #[ev x']) ((sound_len rfl h (hs x') hm).done hm |>.elim fun v hv => ⟨v, w, hv⟩) ?_
      simp [execOp, resolve, invoke, builtin]
    · rename_i t t' x y hts hvs
      have hts' : ts = #[t, t'] := by rw [← Array.toArray_toList (xs := ts), hts]
      obtain ⟨x', y', hx', hxx, hyy⟩ : ∃ x' y', args = #[x', y'] ∧ s x' = x ∧ s y' = y := by
        match hA : args.toList, hvs with
        | [x', y'], hvs => exact ⟨x', y', by rw [← Array.toArray_toList (xs := args), hA], by simp [hA] at hvs; exact hvs⟩
        | [], hvs => simp [hA] at hvs
        | [_], hvs => simp [hA] at hvs
        | _ :: _ :: _ :: _, hvs => simp [hA] at hvs
      subst hx' hxx hyy hts'
      split at h
      · rename_i htt
        subst htt
        refine exec_val (m := Builtin.append_ #[t, t] type #[ev x', ev y']) (sound_append h (hs x') (hs y') hm hlt hB hk) ?_
        simp [execOp, resolve, invoke, builtin]
      · simp at h
    · rename_i x y hvs
      obtain ⟨x', y', hx', hxx, hyy⟩ : ∃ x' y', args = #[x', y'] ∧ s x' = x ∧ s y' = y := by
        match hA : args.toList, hvs with
        | [x', y'], hvs => exact ⟨x', y', by rw [← Array.toArray_toList (xs := args), hA], by simp [hA] at hvs; exact hvs⟩
        | [], hvs => simp [hA] at hvs
        | [_], hvs => simp [hA] at hvs
        | _ :: _ :: _ :: _, hvs => simp [hA] at hvs
      subst hx' hxx hyy
      refine Yd.exec (m := Builtin.max_ ts type #[ev x', ev y']) ((sound_mm h (hs x') (hs y')).1 rfl) hm ?_
      simp [execOp, resolve, invoke, builtin]
    · rename_i x y hvs
      obtain ⟨x', y', hx', hxx, hyy⟩ : ∃ x' y', args = #[x', y'] ∧ s x' = x ∧ s y' = y := by
        match hA : args.toList, hvs with
        | [x', y'], hvs => exact ⟨x', y', by rw [← Array.toArray_toList (xs := args), hA], by simp [hA] at hvs; exact hvs⟩
        | [], hvs => simp [hA] at hvs
        | [_], hvs => simp [hA] at hvs
        | _ :: _ :: _ :: _, hvs => simp [hA] at hvs
      subst hx' hxx hyy
      refine Yd.exec (m := Builtin.min_ ts type #[ev x', ev y']) ((sound_mm h (hs x') (hs y')).2 rfl) hm ?_
      simp [execOp, resolve, invoke, builtin]
    · simp at h
  all_goals (simp only [astep, reduceCtorEq] at h)
end
end E
end
section
namespace E
section
variable {P : Program} {Ev : World → Prop} {w w' : World} {B : Nat} {G G' : Nat → Prop} {η η' : Nat → Option Value} {hp : Hp}
def OwnB (η : Nat → Option Value) (hp : Hp) (g : Nat) : Prop := ∃ id b v, look id hp = some b ∧ η id = some v ∧ hb v = some g
theorem rows_of_list : ∀ {r : List AV} {b o : Nat} {xs : List Value}, RepC w G no r xs → (∀ j u, xs[j]? = some u → w.cell? ⟨b, o + j, none⟩ = some u) → RepRow w G r b o
  | [], b, o, xs, _, _ => trivial
  | c :: r, b, o, [], h, _ => h.elim
  | c :: r, b, o, x :: xs, h, hc => ⟨⟨x, by simpa using hc 0 x rfl, h.1.1, h.1.2⟩, rows_of_list h.2 fun j u hu => by
      have := hc (j + 1) u (by simpa using hu)
      rwa [show o + (j + 1) = o + 1 + j by omega] at this⟩
theorem rowss_of_list : ∀ {rows : List (List AV)} {b o : Nat} {xs : List Value}, RepC w G no rows.flatten xs → (∀ j u, xs[j]? = some u → w.cell? ⟨b, o + j, none⟩ = some u) → RepRows w G rows b o
  | [], b, o, xs, _, _ => trivial
  | r :: rows, b, o, xs, h, hc => by
    rw [List.flatten_cons] at h
    obtain ⟨h1, h2⟩ := repC_split h
    refine ⟨rows_of_list h1 fun j u hu => ?_, rowss_of_list h2 fun j u hu => ?_⟩
    · rw [List.getElem?_take] at hu
      split at hu
      · exact hc j u hu
      · simp at hu
    · rw [List.getElem?_drop] at hu
      have := hc _ u hu
      rwa [show o + (r.length + j) = o + r.length + j by omega] at this
mutual
theorem soft_rep (hm : Mem w B G η hp) (hG : ∀ b, G b → G' b) : ∀ (a : AV) (v : Value), (owns a = true → ∀ g, OwnB η hp g → G' g) → Rep w G η a v → Rep w G' no (soft hp a) v
  | .val _, _, _, h => h
  | .nil, v, _, h => by
    obtain rfl : v = .slice none 0 0 := h
    exact ⟨none, 0, 0, 0, rfl, rfl, Nat.le_refl _, by omega, by simp, .inl rfl⟩
  | .lst rows, v, _, h => by
    obtain ⟨a, n, c, es, h1, h2, h3, h4, h5, h6⟩ := h
    refine ⟨a, n, c, es, h1, h2, h3, h4, h5, ?_⟩
    rcases h6 with h6 | ⟨b, o, h6, h7, h8⟩
    · exact .inl h6
    · exact .inr ⟨b, o, h6, hG b h7, RepRows.up (fun b hb => ⟨hG b hb, rfl⟩) rows b o h7 h8⟩
  | .elm row off, v, _, h => by
    obtain ⟨b, o, h1, h2, h3⟩ := h
    exact ⟨b, o, h1, hG b h2, RepRow.up (fun b hb => ⟨hG b hb, rfl⟩) row b o h2 h3⟩
  | .ref _ _, _, _, _ => trivial
  | .rel _ _ _ _, _, _, _ => trivial
  | .own id, v, ho, h => by
    unfold soft
    split
    · rename_i e es rows hl
      obtain ⟨h1, a, n, c, rfl⟩ := h
      obtain ⟨hd, h3, h4, h5⟩ := hm.rep id _ hl
      rw [h1] at h3
      simp only [Option.some.injEq] at h3
      subst h3
      obtain ⟨xs, j1, j2, j3, j4⟩ := h4
      rcases j1.2 with ⟨hh, h0⟩ | ⟨g, cap, cur, hh, b0, b1, b2, b3, b4, b5⟩
      · simp only [Value.slice.injEq] at hh
        obtain ⟨rfl, rfl, rfl⟩ := hh
        exact ⟨none, 0, 0, es, rfl, h0, Nat.le_refl _, by omega, j3, .inl (List.eq_nil_of_length_eq_zero h0)⟩
      · simp only [Value.slice.injEq] at hh
        obtain ⟨rfl, rfl, rfl⟩ := hh
        refine ⟨_, _, _, es, rfl, rfl, b2, by unfold maxLen at b3; omega, j3, .inr ⟨g, 0, rfl, ho rfl g ⟨id, _, _, hl, h1, rfl⟩, ?_⟩⟩
        refine rowss_of_list (RepC.up (fun b hb => ⟨hG b hb, rfl⟩) (fun _ _ h => h) _ _ j2) fun j u hu => ?_
        have := j1.cells rfl j u hu
        rwa [addr_add] at this
    · trivial
  | .agg cs, v, ho, h => by
    obtain ⟨vs, rfl, h2⟩ := h
    exact ⟨vs, rfl, softC_rep hm hG cs vs (fun h => ho h) h2⟩
  | .tup cs, v, ho, h => by
    obtain ⟨vs, rfl, h2⟩ := h
    exact ⟨vs, rfl, softL_rep hm hG cs vs (fun h => ho h) h2⟩
  | .fn f fs cs, v, ho, h => by
    obtain ⟨v1, v2, rfl, h2, h3⟩ := h
    exact ⟨v1, v2, rfl, softL_rep hm hG fs v1 (fun h => ho (by simp [owns, h])) h2, softL_rep hm hG cs v2 (fun h => ho (by simp [owns, h])) h3⟩
  | .top, _, _, _ => trivial
theorem softL_rep (hm : Mem w B G η hp) (hG : ∀ b, G b → G' b) : ∀ (az : List AV) (vs : List Value), (ownsL az = true → ∀ g, OwnB η hp g → G' g) → RepL w G η az vs → RepL w G' no (softL hp az) vs
  | [], [], _, _ => trivial
  | [], _ :: _, _, h => h.elim
  | _ :: _, [], _, h => h.elim
  | a :: az, v :: vs, ho, h => ⟨soft_rep hm hG a v (fun h => ho (by simp [ownsL, h])) h.1, softL_rep hm hG az vs (fun h => ho (by simp [ownsL, h])) h.2⟩
theorem softC_rep (hm : Mem w B G η hp) (hG : ∀ b, G b → G' b) : ∀ (az : List AV) (vs : List Value), (ownsL az = true → ∀ g, OwnB η hp g → G' g) → RepC w G η az vs → RepC w G' no (softL hp az) vs
  | [], [], _, _ => trivial
  | [], _ :: _, _, h => h.elim
  | _ :: _, [], _, h => h.elim
  | a :: az, v :: vs, ho, h => ⟨⟨h.1.1, soft_rep hm hG a v (fun h => ho (by simp [ownsL, h])) h.1.2⟩, softC_rep hm hG az vs (fun h => ho (by simp [ownsL, h])) h.2⟩
end
mutual
theorem flat_rep : ∀ (a : AV) (v : Value), flat a = true → Rep w G η a v → Rep w G' η a v
  | .val _, _, _, h => h
  | .nil, _, _, h => h
  | .lst rows, v, hf, h => by
    have h0 : rows = [] := by simpa [flat] using hf
    subst h0
    obtain ⟨a, n, c, es, h1, h2, h3, h4, h5, _⟩ := h
    exact ⟨a, n, c, es, h1, h2, h3, h4, h5, .inl rfl⟩
  | .elm _ _, _, hf, _ => by simp [flat] at hf
  | .ref _ _, _, _, h => h
  | .rel _ _ _ _, _, _, h => h
  | .own _, _, _, h => h
  | .agg cs, v, hf, h => by
    obtain ⟨vs, rfl, h2⟩ := h
    exact ⟨vs, rfl, flatC_rep cs vs hf h2⟩
  | .tup cs, v, hf, h => by
    obtain ⟨vs, rfl, h2⟩ := h
    exact ⟨vs, rfl, flatL_rep cs vs hf h2⟩
  | .fn f fs cs, v, hf, h => by
    obtain ⟨v1, v2, rfl, h2, h3⟩ := h
    simp only [flat, Bool.and_eq_true] at hf
    exact ⟨v1, v2, rfl, flatL_rep fs v1 hf.1 h2, flatL_rep cs v2 hf.2 h3⟩
  | .top, _, _, _ => trivial
theorem flatL_rep : ∀ (az : List AV) (vs : List Value), flatL az = true → RepL w G η az vs → RepL w G' η az vs
  | [], [], _, _ => trivial
  | [], _ :: _, _, h => h.elim
  | _ :: _, [], _, h => h.elim
  | a :: az, v :: vs, hf, h => by
    simp only [flatL, Bool.and_eq_true] at hf
    exact ⟨flat_rep a v hf.1 h.1, flatL_rep az vs hf.2 h.2⟩
theorem flatC_rep : ∀ (az : List AV) (vs : List Value), flatL az = true → RepC w G η az vs → RepC w G' η az vs
  | [], [], _, _ => trivial
  | [], _ :: _, _, h => h.elim
  | _ :: _, [], _, h => h.elim
  | a :: az, v :: vs, hf, h => by
    simp only [flatL, Bool.and_eq_true] at hf
    exact ⟨⟨h.1.1, flat_rep a v hf.1 h.1.2⟩, flatC_rep az vs hf.2 h.2⟩
end
theorem flatL_app : ∀ (a b : List AV), flatL (a ++ b) = (flatL a && flatL b)
  | [], b => by simp [flatL]
  | x :: a, b => by simp [flatL, flatL_app a b, Bool.and_assoc]
theorem flatL_flatten : ∀ (rows : List (List AV)), rows.all flatL = true → flatL rows.flatten = true
  | [], _ => rfl
  | r :: rows, h => by
    simp only [List.all_cons, Bool.and_eq_true] at h
    rw [List.flatten_cons, flatL_app, h.1, flatL_flatten rows h.2]
    rfl
theorem flatB_rep {b : Blk} {v : Value} (hf : flatB b = true) (h : RepB w G η b v) : RepB w G' η b v := by
  cases b with
  | box cs =>
    obtain ⟨b, T, vs, h1, h2, h3⟩ := h
    exact ⟨b, T, vs, h1, h2, flatC_rep cs vs hf h3⟩
  | row e es rows =>
    obtain ⟨xs, h1, h2, h3⟩ := h
    exact ⟨xs, h1, flatC_rep _ _ (flatL_flatten rows hf) h2, h3⟩
mutual
theorem ren_rep {f : Nat → Option Nat} (hf : ∀ i j, f i = some j → ∀ v, η i = some v → η' j = some v) : ∀ (a : AV) (v : Value), Rep w G η a v → Rep w G η' (ren f a) v
  | .val _, _, h => h
  | .nil, _, h => h
  | .lst _, _, h => h
  | .elm _ _, _, h => h
  | .ref id o, v, h => by
    unfold ren
    split
    · obtain ⟨b, h1, h2⟩ := h
      exact ⟨b, hf _ _ ‹_› _ h1, h2⟩
    · trivial
  | .rel id es i o, v, h => by
    unfold ren
    split
    · obtain ⟨b, n, c, h1, h2⟩ := h
      exact ⟨b, n, c, hf _ _ ‹_› _ h1, h2⟩
    · trivial
  | .own id, v, h => by
    unfold ren
    split
    · exact ⟨hf _ _ ‹_› _ h.1, h.2⟩
    · trivial
  | .agg cs, v, h => by
    obtain ⟨vs, rfl, h2⟩ := h
    exact ⟨vs, rfl, renC_rep hf cs vs h2⟩
  | .tup cs, v, h => by
    obtain ⟨vs, rfl, h2⟩ := h
    exact ⟨vs, rfl, renL_rep hf cs vs h2⟩
  | .fn g fs cs, v, h => by
    obtain ⟨v1, v2, rfl, h2, h3⟩ := h
    exact ⟨v1, v2, rfl, renL_rep hf fs v1 h2, renL_rep hf cs v2 h3⟩
  | .top, _, _ => trivial
theorem renL_rep {f : Nat → Option Nat} (hf : ∀ i j, f i = some j → ∀ v, η i = some v → η' j = some v) : ∀ (az : List AV) (vs : List Value), RepL w G η az vs → RepL w G η' (renL f az) vs
  | [], [], _ => trivial
  | [], _ :: _, h => h.elim
  | _ :: _, [], h => h.elim
  | a :: az, v :: vs, h => ⟨ren_rep hf a v h.1, renL_rep hf az vs h.2⟩
theorem renC_rep {f : Nat → Option Nat} (hf : ∀ i j, f i = some j → ∀ v, η i = some v → η' j = some v) : ∀ (az : List AV) (vs : List Value), RepC w G η az vs → RepC w G η' (renL f az) vs
  | [], [], _ => trivial
  | [], _ :: _, h => h.elim
  | _ :: _, [], h => h.elim
  | a :: az, v :: vs, h => ⟨⟨h.1.1, ren_rep hf a v h.1.2⟩, renC_rep hf az vs h.2⟩
end
theorem renB_rep {f : Nat → Option Nat} (hf : ∀ i j, f i = some j → ∀ v, η i = some v → η' j = some v) {b : Blk} {v : Value} (h : RepB w G η b v) : RepB w G η' (renB f b) v := by
  cases b with
  | box cs =>
    obtain ⟨b, T, vs, h1, h2, h3⟩ := h
    exact ⟨b, T, vs, h1, h2, renC_rep hf cs vs h3⟩
  | row e es rows => exact h
theorem look_adopt (k : Nat) : ∀ (nb : Hp) (id : Nat) (c : Blk), look id (adopt k nb) = some c → ∃ j b, id = k + j ∧ look j nb = some b ∧ c = renB (sh k) b
  | [], id, c, h => by simp [adopt, look] at h
  | (j, b) :: nb, id, c, h => by
    simp only [adopt, look] at h
    split at h
    · rename_i e
      simp only [beq_iff_eq] at e
      simp only [Option.some.injEq] at h
      exact ⟨j, b, e.symm, by simp [look], h.symm⟩
    · rename_i e
      obtain ⟨j', b', h1, h2, h3⟩ := look_adopt k nb id c h
      refine ⟨j', b', h1, ?_, h3⟩
      simp only [look]
      rw [if_neg]
      · exact h2
      · intro e'
        simp only [beq_iff_eq] at e' e
        omega
theorem look_append (id : Nat) : ∀ (a b : Hp), look id (a ++ b) = match look id a with | some c => some c | none => look id b
  | [], b => rfl
  | (j, c) :: a, b => by
    simp only [List.cons_append, look]
    split
    · rfl
    · exact look_append id a b
theorem look_lt {p : Nat → Bool} : ∀ (nb : Hp) (j : Nat) (b : Blk), (nb.all fun x => p x.1) = true → look j nb = some b → p j = true
  | [], j, b, _, h => by simp [look] at h
  | (i, c) :: nb, j, b, ha, h => by
    simp only [List.all_cons, Bool.and_eq_true] at ha
    simp only [look] at h
    split at h
    · rename_i e
      simp only [beq_iff_eq] at e
      rw [← e]
      exact ha.1
    · exact look_lt nb j b ha.2 h
theorem look_all {p : Blk → Bool} : ∀ (nb : Hp) (j : Nat) (b : Blk), (nb.all fun x => p x.2) = true → look j nb = some b → p b = true
  | [], j, b, _, h => by simp [look] at h
  | (i, c) :: nb, j, b, ha, h => by
    simp only [List.all_cons, Bool.and_eq_true] at ha
    simp only [look] at h
    split at h
    · simp only [Option.some.injEq] at h
      rw [← h]
      exact ha.1
    · exact look_all nb j b ha.2 h
def put4 (η η2 : Nat → Option Value) (k : Nat) : Nat → Option Value := fun i => if k ≤ i ∧ i < k + 4 then η2 (i - k) else η i
theorem put4_ge {η2 : Nat → Option Value} {k : Nat} (h : ∀ i, k ≤ i → i < k + 4 → η i = none) : Ge η (put4 η η2 k) := by
  intro id v hv
  unfold put4
  split
  · rename_i hc
    rw [h id hc.1 hc.2] at hv
    simp at hv
  · exact hv
theorem put4_sh {η2 : Nat → Option Value} {k : Nat} : ∀ i j, sh k i = some j → ∀ v, η2 i = some v → put4 η η2 k j = some v := by
  intro i j h v hv
  unfold sh at h
  split at h
  · simp only [Option.some.injEq] at h
    subst h
    unfold put4
    rw [if_pos (by omega), show k + i - k = i by omega]
    exact hv
  · simp at h
theorem Mem.more (hm : Mem w B G η hp) (hlt : ∀ b, G b → b < w.heap.size) (hB : B ≤ w.heap.size) {k : Nat} (hk : ∀ i, k ≤ i → i < k + 4 → η i = none) {nb : Hp} {G2 : Nat → Prop} {η2 : Nat → Option Value}
    (hbel : Below w.heap.size w w') (hm2 : Mem w' w.heap.size G2 η2 nb) (h4 : (nb.all fun x => decide (x.1 < 4)) = true) (hG' : ∀ b, G' b → G b ∨ (G2 b ∧ w.heap.size ≤ b)) (hGG : ∀ b, G b → G' b)
    (hrep : ∀ j b v, look j nb = some b → η2 j = some v → RepB w' G' η2 b v) : Mem w' B G' (put4 η η2 k) (adopt k nb ++ hp) := by
  have hw : ∀ i, i < w.heap.size → w'.heap[i]? = w.heap[i]? := hbel.block
  have hUp : Up w w' G G' := fun b hb => ⟨hGG b hb, hw b (hlt b hb)⟩
  have key : ∀ id c, look id (adopt k nb ++ hp) = some c → (∃ j b, id = k + j ∧ j < 4 ∧ look j nb = some b ∧ c = renB (sh k) b) ∨ (look id hp = some c ∧ ¬ (k ≤ id ∧ id < k + 4)) := by
    intro id c h
    rw [look_append] at h
    split at h
    · rename_i c' hc'
      simp only [Option.some.injEq] at h
      subst h
      obtain ⟨j, b, h1, h2, h3⟩ := look_adopt k nb id _ hc'
      have := look_lt (p := fun x => decide (x < 4)) nb j b h4 h2
      exact .inl ⟨j, b, h1, by simpa using this, h2, h3⟩
    · right
      refine ⟨h, fun hc => ?_⟩
      rw [hm.none_of (hk id hc.1 hc.2)] at h
      simp at h
  have e1 : ∀ j v, j < 4 → (put4 η η2 k (k + j) = some v ↔ η2 j = some v) := by
    intro j v hj
    unfold put4
    rw [if_pos (by omega), show k + j - k = j by omega]
  have e2 : ∀ id, ¬ (k ≤ id ∧ id < k + 4) → put4 η η2 k id = η id := fun id h => by unfold put4; rw [if_neg h]
  constructor
  · intro id c hc
    rcases key id c hc with ⟨j, b, rfl, hj, hl, rfl⟩ | ⟨hl, hn⟩
    · obtain ⟨v, h1, h2, h3⟩ := hm2.rep j b hl
      refine ⟨v, (e1 j v hj).2 h1, renB_rep put4_sh (hrep j b v hl h1), fun g hg => ?_⟩
      obtain ⟨k1, k2⟩ := h3 g hg
      refine ⟨by omega, fun hG => ?_⟩
      rcases hG' g hG with h | h
      · have := hlt g h; omega
      · exact k2 h.1
    · obtain ⟨v, h1, h2, h3⟩ := hm.rep id c hl
      refine ⟨v, by rw [e2 id hn]; exact h1, RepB.up hUp (put4_ge hk) (fun g hg => hw g (h2.lt hg)) h2, fun g hg => ⟨(h3 g hg).1, fun hG => ?_⟩⟩
      rcases hG' g hG with h | h
      · exact (h3 g hg).2 h
      · have := h2.lt hg; omega
  · intro id id' c c' v v' g hc hc' hv hv' hg hg'
    rcases key id c hc with ⟨j, b, rfl, hj, hl, rfl⟩ | ⟨hl, hn⟩ <;> rcases key id' c' hc' with ⟨j', b', rfl, hj', hl', rfl⟩ | ⟨hl', hn'⟩
    · rw [hm2.inj j j' b b' v v' g hl hl' ((e1 j v hj).1 hv) ((e1 j' v' hj').1 hv') hg hg']
    · obtain ⟨x, h1, h2, h3⟩ := hm2.rep j b hl
      rw [(e1 j v hj).1 hv] at h1
      simp only [Option.some.injEq] at h1
      subst h1
      obtain ⟨y, k1, k2, _⟩ := hm.rep id' c' hl'
      rw [e2 id' hn', k1] at hv'
      simp only [Option.some.injEq] at hv'
      subst hv'
      have := (h3 g hg).1
      have := k2.lt hg'
      omega
    · obtain ⟨x, h1, h2, h3⟩ := hm2.rep j' b' hl'
      rw [(e1 j' v' hj').1 hv'] at h1
      simp only [Option.some.injEq] at h1
      subst h1
      obtain ⟨y, k1, k2, _⟩ := hm.rep id c hl
      rw [e2 id hn, k1] at hv
      simp only [Option.some.injEq] at hv
      subst hv
      have := (h3 g hg').1
      have := k2.lt hg
      omega
    · rw [e2 id hn] at hv
      rw [e2 id' hn'] at hv'
      exact hm.inj id id' c c' v v' g hl hl' hv hv' hg hg'
end
end E
end
section
namespace E
inductive Eff where
  | st (r : AV) (u : Upd)
  | cl (r : AV) (nb : Hp)
def app (dst : Option Tmp) (e : Eff) (s : St) : St :=
  match e with
  | .st r u => (s.put dst r).upd u
  | .cl r nb => (s.put dst r).more nb
def opE (P : Program) (Ev : World → Prop) (op : Op) (k : Nat) (s : St) : Eff → Prop
  | .st r u => ((∀ f az ts, op ≠ .call ⟨.value f, az, ts⟩) ∧ (∀ t g, op ≠ .load t (.global g)) ∧ astep P op k ((opnds op).map s.ev) s.heap = some (r, u)) ∨ (∃ t g, op = .load t (.global g) ∧ AGlob P Ev t (.pointer (some ⟨g, 0, none⟩)) r ∧ u = .none)
  | .cl r nb => ∃ f az ts, op = .call ⟨.value f, az, ts⟩ ∧ ∃ g fs cs args r0 nb0, softL s.heap (s.ev f :: az.toList.map s.ev) = .fn g fs cs :: args ∧ ACalls P Ev g (fs ++ (args ++ cs)) r0 nb0 ∧
      (ownsL (s.ev f :: az.toList.map s.ev) = false ∨ flat r0 = true ∧ (nb0.all fun x => flatB x.2) = true) ∧ (nb0.all fun x => decide (x.1 < 4)) = true ∧ r = ren (sh k) r0 ∧ nb = adopt k nb0
section
variable {P : Program} {Ev : World → Prop}
theorem opK_E {op : Op} {dst : Option Tmp} {k : Nat} {s : St} {K : St → Prop} (h : opK P Ev op dst k s K) : ∃ e, opE P Ev op k s e ∧ K (app dst e s) := by
  unfold opK at h
  split at h
  · rename_i f az ts
    unfold callK at h
    split at h
    · rename_i g fs cs args heq
      obtain ⟨r, nb, h1, h2, h3, h4⟩ := h
      exact ⟨.cl (ren (sh k) r) (adopt k nb), ⟨f, az, ts, rfl, g, fs, cs, args, r, nb, heq, h1, h2, h3, rfl, rfl⟩, h4⟩
    · exact h.elim
  · rename_i t g
    obtain ⟨r, h1, h2⟩ := h
    exact ⟨.st r .none, .inr ⟨t, g, rfl, h1, rfl⟩, h2⟩
  · rename_i n1 n2
    unfold stepK at h
    split at h
    · rename_i v u heq
      exact ⟨.st v u, .inl ⟨fun f az ts e => n1 f az ts e, fun t g e => n2 t g e, heq⟩, h⟩
    · exact h.elim
def InvA (S : Nat → Prop) (w0 : World) (A : Nat → Prop) (s : St) (a : Act) (w : World) : Prop :=
  Below w0.heap.size w0 w ∧ a.tmps.size = s.n ∧ a.defers = [] ∧ ∃ (G : Nat → Prop) (η : Nat → Option Value),
    (∀ b, G b → (S b ∨ w0.heap.size ≤ b) ∧ b < w.heap.size) ∧ (∀ t x, look t s.tmps = some x → Rep w G η x (a.tmps.getD t undef)) ∧
    Mem w w0.heap.size G η s.heap ∧ ∀ id, ¬ A id → η id = none
theorem inv_iff {S : Nat → Prop} {w0 : World} {s : St} {a : Act} {w : World} : Inv S w0 s a w ↔ InvA S w0 (· < s.next) s a w := by
  unfold Inv InvA
  simp only [Nat.not_lt]
theorem ev_rep {w : World} {G : Nat → Prop} {η : Nat → Option Value} {s : St} {a : Act} (h : ∀ t x, look t s.tmps = some x → Rep w G η x (a.tmps.getD t undef)) (x : Operand) : Rep w G η (s.ev x) (a.eval x) := by
  cases x with
  | tmp t =>
    unfold St.ev Act.eval
    dsimp only
    cases hl : look t s.tmps with
    | none => trivial
    | some c => exact h t c hl
  | const v => exact rep_ofV v
  | global g => rfl
  | func f => exact ⟨[], [], rfl, trivial, trivial⟩
def tk (A : Nat → Prop) (k : Nat) : Nat → Prop := fun id => A id ∨ (k ≤ id ∧ id < k + 4)
theorem look_put {s : St} {dst : Option Tmp} {r : AV} {t : Nat} : look t (s.put dst r).tmps = if dst = some t ∧ t < s.n then some r else look t s.tmps := by
  cases dst with
  | none => simp [St.put]
  | some d =>
    simp only [St.put]
    by_cases hd : d < s.n
    · rw [if_pos hd]
      simp only [look, beq_iff_eq]
      by_cases ht : d = t
      · subst ht
        simp [hd]
      · rw [if_neg ht, if_neg]
        intro h
        simp only [Option.some.injEq] at h
        exact ht h.1
    · rw [if_neg hd, if_neg]
      intro h
      simp only [Option.some.injEq] at h
      exact hd (h.1 ▸ h.2)
theorem put_rest {s : St} {dst : Option Tmp} {r : AV} : (s.put dst r).n = s.n ∧ (s.put dst r).heap = s.heap ∧ (s.put dst r).next = s.next := by
  cases dst with
  | none => exact ⟨rfl, rfl, rfl⟩
  | some d =>
    simp only [St.put]
    split <;> exact ⟨rfl, rfl, rfl⟩
theorem getD_put {a : Act} {dst : Option Tmp} {v : Value} {t : Nat} (h : t < a.tmps.size ∨ dst ≠ some t) : (a.put dst v).tmps.getD t undef = if dst = some t then v else a.tmps.getD t undef := by
  cases dst with
  | none => simp [Act.put]
  | some d =>
    simp only [Act.put, Option.some.injEq]
    by_cases hd : d = t
    · subst hd
      rcases h with h | h
      · simp [Array.getD_eq_getD_getElem?, h]
      · simp at h
    · simp [Array.getD_eq_getD_getElem?, Array.getElem?_setIfInBounds_ne hd, hd]
theorem rel_put {w : World} {G : Nat → Prop} {η : Nat → Option Value} {s : St} {a : Act} {dst : Option Tmp} {r : AV} {v : Value} (hn : a.tmps.size = s.n) (h : ∀ t x, look t s.tmps = some x → Rep w G η x (a.tmps.getD t undef)) (hr : Rep w G η r v) :
    ∀ t x, look t (s.put dst r).tmps = some x → Rep w G η x ((a.put dst v).tmps.getD t undef) := by
  intro t x hx
  rw [look_put] at hx
  split at hx
  · rename_i hc
    simp only [Option.some.injEq] at hx
    subst hx
    rw [getD_put (.inl (by omega)), if_pos hc.1]
    exact hr
  · rename_i hc
    by_cases hd : dst = some t
    · have : ¬ t < s.n := fun hlt => hc ⟨hd, hlt⟩
      have hrep := h t x hx
      subst hd
      have e : (a.put (some t) v).tmps.getD t undef = a.tmps.getD t undef := by
        simp only [Act.put]
        rw [Array.setIfInBounds_eq_of_size_le (by omega)]
      rw [e]
      exact hrep
    · rw [getD_put (.inr hd), if_neg hd]
      exact h t x hx
theorem act_size {a : Act} {dst : Option Tmp} {v : Value} : (a.put dst v).tmps.size = a.tmps.size ∧ (a.put dst v).defers = a.defers := by
  cases dst <;> simp [Act.put]
theorem upd_heap {s : St} {dst : Option Tmp} {r : AV} {u : Upd} : ((s.put dst r).upd u).heap = u.on s.heap ∧ ((s.put dst r).upd u).tmps = (s.put dst r).tmps ∧ ((s.put dst r).upd u).n = s.n ∧ ((s.put dst r).upd u).next = s.next := by
  obtain ⟨h1, h2, h3⟩ := put_rest (s := s) (dst := dst) (r := r)
  simp only [St.upd]
  exact ⟨by rw [h2], trivial, h1, h3⟩
theorem more_heap {s : St} {dst : Option Tmp} {r : AV} {nb : Hp} : ((s.put dst r).more nb).heap = nb ++ s.heap ∧ ((s.put dst r).more nb).tmps = (s.put dst r).tmps ∧ ((s.put dst r).more nb).n = s.n ∧ ((s.put dst r).more nb).next = s.next := by
  obtain ⟨h1, h2, h3⟩ := put_rest (s := s) (dst := dst) (r := r)
  simp only [St.more]
  exact ⟨by rw [h2], trivial, h1, h3⟩
theorem inv_done {S : Nat → Prop} {w0 w w' : World} {A : Nat → Prop} {s : St} {a : Act} {dst : Option Tmp} {k : Nat} {r : AV} {u : Upd} {v : Value} {G : Nat → Prop} {η : Nat → Option Value} (h1 : Below w0.heap.size w0 w) (h2 : a.tmps.size = s.n) (h3 : a.defers = [])
    (hG : ∀ b, G b → (S b ∨ w0.heap.size ≤ b) ∧ b < w.heap.size) (hrel : ∀ t x, look t s.tmps = some x → Rep w G η x (a.tmps.getD t undef)) (hA : ∀ id, ¬ A id → η id = none)
    (hd : Done w w0.heap.size G η s.heap k r u v w') : InvA S w0 (tk A k) (app dst (.st r u) s) (a.put dst v) w' := by
  obtain ⟨η', d1, d2, d3, d4, d5, d6⟩ := hd
  obtain ⟨e1, e2, e3, e4⟩ := upd_heap (s := s) (dst := dst) (r := r) (u := u)
  refine ⟨h1.trans d5, ?_, ?_, G, η', fun b hb => ⟨(hG b hb).1, Nat.lt_of_lt_of_le (hG b hb).2 d5.size⟩, ?_, ?_, fun id hid => ?_⟩
  · rw [act_size.1, h2]; exact e3.symm
  · rw [act_size.2, h3]
  · show ∀ t x, look t ((s.put dst r).upd u).tmps = some x → _
    rw [e2]
    exact rel_put h2 (fun t x hx => Rep.up (fun b hb => ⟨hb, d6 b hb⟩) d1 _ _ (hrel t x hx)) d3
  · show Mem w' _ _ _ ((s.put dst r).upd u).heap
    rw [e1]
    exact d4
  · cases hη : η' id with
    | none => rfl
    | some x =>
      exfalso
      rcases d2 id (by rw [hη]; simp) with h | h
      · exact h (hA id fun hA' => hid (.inl hA'))
      · exact hid (.inr (by omega))
theorem op_sound {S : Nat → Prop} {w0 w : World} {A : Nat → Prop} {s : St} {a : Act} {o : Oper} {k : Nat} {e : Eff} {Q : Exit → Act → World → Prop} {K : Act → World → Prop} (hev : Ev w) (hI : InvA S w0 A s a w) (hk : ∀ id, k ≤ id → id < k + 4 → ¬ A id)
    (he : opE P Ev o.op k s e) (hK : ∀ a' w', InvA S w0 (tk A k) (app o.dst e s) a' w' → K a' w') : o.wp P a w K Q := by
  obtain ⟨h1, h2, h3, G, η, hG, hrel, hm, hA⟩ := hI
  have hB : w0.heap.size ≤ w.heap.size := h1.size
  have hlt : ∀ b, G b → b < w.heap.size := fun b hb => (hG b hb).2
  have hs := fun x => ev_rep hrel x
  cases e with
  | st r u =>
    rcases he with ⟨_, _, hst⟩ | ⟨t, g, hop, hgl, rfl⟩
    · obtain ⟨v, w', hrun, hd⟩ := astep_exec hs hst hm hlt hB (hA k (hk k (Nat.le_refl _) (by omega)))
      have hI' := inv_done (dst := o.dst) h1 h2 h3 hG hrel hA hd
      unfold Oper.wp
      rcases hrun with hrun | ⟨hrun, rfl⟩
      · rw [hrun]; exact hK _ _ hI'
      · rw [hrun]; exact hK _ _ hI'
    · obtain ⟨v, hrun, hr⟩ := hgl w hev
      unfold Oper.wp
      have : (execOp a.eval o).run P w = .ok (.value v) w := by
        have hrun' : (Instr.loadAt t (a.eval (.global g))).run P w = .ok v w := hrun
        simp only [execOp, hop, Sem.run_bind, hrun', Result.andThen_ok, Sem.run_pure]
      rw [this]
      exact hK _ _ (inv_done (k := k) (dst := o.dst) h1 h2 h3 hG hrel hA ⟨η, fun _ _ h => h, fun _ h => .inl h, hr _ _, hm, Below.refl _ _, fun _ _ => rfl⟩)
  | cl r nb =>
    obtain ⟨f, az, ts, hop, g, fs, cs, args, r0, nb0, hsoft, hcall, hown, h4, rfl, rfl⟩ := he
    obtain ⟨⟨fn, hf1, hf2, hf3⟩, hc⟩ := hcall
    obtain ⟨Gc, hGc1, hGc2, hGc3⟩ : ∃ Gc : Nat → Prop, (∀ b, G b → Gc b) ∧ (∀ b, Gc b → b < w.heap.size) ∧ (((∀ b, Gc b → G b) ∧ ownsL (s.ev f :: az.toList.map s.ev) = false) ∨ (ownsL (s.ev f :: az.toList.map s.ev) = true ∧ ∀ b, OwnB η s.heap b → Gc b)) := by
      cases ho : ownsL (s.ev f :: az.toList.map s.ev) with
      | false => exact ⟨G, fun _ h => h, hlt, .inl ⟨fun _ h => h, rfl⟩⟩
      | true =>
        refine ⟨fun b => G b ∨ OwnB η s.heap b, fun _ h => .inl h, fun b hb => ?_, .inr ⟨rfl, fun _ h => .inr h⟩⟩
        rcases hb with hb | ⟨id, c, v, q1, q2, q3⟩
        · exact hlt b hb
        · obtain ⟨v', q4, q5, _⟩ := hm.rep id c q1
          rw [q2] at q4
          simp only [Option.some.injEq] at q4
          subst q4
          exact q5.lt q3
    have hall := softL_rep hm hGc1 (s.ev f :: az.toList.map s.ev) (a.eval f :: az.toList.map a.eval) (fun ho g hg => by
      rcases hGc3 with h | h
      · rw [h.2] at ho; simp at ho
      · exact h.2 g hg) ⟨hs f, repL_map hs az.toList⟩
    rw [hsoft] at hall
    obtain ⟨⟨v1, v2, hfv, hr1, hr2⟩, hr3⟩ := hall
    have happ : ∀ (a b : List AV) (us vs : List Value), RepL w Gc no a us → RepL w Gc no b vs → RepL w Gc no (a ++ b) (us ++ vs) := by
      intro a
      induction a with
      | nil =>
        intro b us vs h h'
        match us, h with
        | [], _ => exact h'
        | _ :: _, h => exact h.elim
      | cons c a ih =>
        intro b us vs h h'
        match us, h with
        | [], h => exact h.elim
        | u :: us, h => exact ⟨h.1, ih b us vs h.2 h'⟩
    have hargs := happ _ _ _ _ hr1 (happ _ _ _ _ hr3 hr2)
    have hrun : (execOp a.eval o).run P w = .ok (.enter g ((v1 ++ (az.toList.map a.eval ++ v2)).toArray)) w := by
      have e1 : (v1 ++ (az.toList.map a.eval ++ v2)).toArray = v1.toArray ++ az.map a.eval ++ v2.toArray := by
        apply Array.ext'
        simp
      rw [e1]
      simp only [execOp, hop, resolve, hfv, Deferred.ofValue, Sem.run_bind, Sem.run_pure, Result.andThen_ok, invoke, callFunc, run_program, hf1, hf3, hf2, Bool.false_eq_true, if_false]
    unfold Oper.wp
    rw [hrun]
    refine (hc w _ Gc hev hGc2 (by simpa using hargs)).mono fun ending w' hpost => ?_
    obtain ⟨v, rfl, hbel, G2, η2, hG2, hrep, hmem⟩ := hpost
    refine hK _ _ ?_
    have hfree : ∀ i, k ≤ i → i < k + 4 → η i = none := fun i h1 h2 => hA i (hk i h1 h2)
    let G' : Nat → Prop := fun b => G b ∨ (G2 b ∧ w.heap.size ≤ b)
    have hsz : w.heap.size ≤ w'.heap.size := hbel.size
    have hUp : Up w w' G G' := fun b hb => ⟨.inl hb, hbel.block b (hlt b hb)⟩
    have hres : Rep w' G' η2 r0 v ∧ ∀ j b x, look j nb0 = some b → η2 j = some x → RepB w' G' η2 b x := by
      rcases hown with ho | ⟨ho1, ho2⟩
      · have hU2 : Up w' w' G2 G' := fun b hb => ⟨by
          rcases (hG2 b hb).1 with h | h
          · rcases hGc3 with h' | h'
            · exact .inl (h'.1 b h)
            · rw [ho] at h'; simp at h'
          · exact .inr ⟨hb, h⟩, rfl⟩
        refine ⟨Rep.up hU2 (fun _ _ h => h) _ _ hrep, fun j b x hl hx => ?_⟩
        obtain ⟨y, q1, q2, _⟩ := hmem.rep j b hl
        rw [hx] at q1
        simp only [Option.some.injEq] at q1
        subst q1
        exact RepB.up hU2 (fun _ _ h => h) (fun _ _ => rfl) q2
      · refine ⟨flat_rep _ _ ho1 hrep, fun j b x hl hx => ?_⟩
        obtain ⟨y, q1, q2, _⟩ := hmem.rep j b hl
        rw [hx] at q1
        simp only [Option.some.injEq] at q1
        subst q1
        exact flatB_rep (look_all nb0 j b ho2 hl) q2
    obtain ⟨e1, e2, e3, e4⟩ := more_heap (s := s) (dst := o.dst) (r := ren (sh k) r0) (nb := adopt k nb0)
    refine ⟨h1.trans (hbel.mono hB), ?_, ?_, G', put4 η η2 k, fun b hb => ?_, ?_, ?_, fun id hid => ?_⟩
    · rw [act_size.1, h2]; exact e3.symm
    · rw [act_size.2, h3]
    · rcases hb with hb | ⟨hb, hb'⟩
      · exact ⟨(hG b hb).1, Nat.lt_of_lt_of_le (hG b hb).2 hsz⟩
      · exact ⟨.inr (Nat.le_trans hB hb'), (hG2 b hb).2⟩
    · show ∀ t x, look t ((s.put o.dst (ren (sh k) r0)).more (adopt k nb0)).tmps = some x → _
      rw [e2]
      exact rel_put h2 (fun t x hx => Rep.up hUp (put4_ge hfree) _ _ (hrel t x hx)) (ren_rep put4_sh _ _ hres.1)
    · show Mem w' _ _ _ ((s.put o.dst (ren (sh k) r0)).more (adopt k nb0)).heap
      rw [e1]
      exact hm.more hlt hB hfree hbel hmem h4 (fun b hb => hb) (fun b hb => .inl hb) hres.2
    · have hn : ¬ (k ≤ id ∧ id < k + 4) := fun h => hid (.inr h)
      unfold put4
      rw [if_neg hn]
      exact hA id fun h => hid (.inl h)
end
end E
end
section
namespace E
section
variable {P : Program} {Ev : World → Prop}
theorem InvA.mono {S : Nat → Prop} {w0 w : World} {A A' : Nat → Prop} {s : St} {a : Act} (h : InvA S w0 A s a w) (hA : ∀ id, A id → A' id) : InvA S w0 A' s a w := by
  obtain ⟨h1, h2, h3, G, η, hG, hrel, hm, h4⟩ := h
  exact ⟨h1, h2, h3, G, η, hG, hrel, hm, fun id h => h4 id fun h' => h (hA id h')⟩
def Stable (Ev : World → Prop) : Prop := ∀ w w' : World, Ev w → Below w.heap.size w w' → Ev w'
theorem InvA.ev {S : Nat → Prop} {w0 w : World} {A : Nat → Prop} {s : St} {a : Act} (hE : Stable Ev) (h0 : Ev w0) (h : InvA S w0 A s a w) : Ev w := hE _ _ h0 h.1
def opG (P : Program) (Ev : World → Prop) (ops : List Oper) (o : Oper) (k : Nat) (s : St) (e : Eff) : Prop :=
  match o.guard with
  | none => opE P Ev o.op k s e
  | some (j, want) => ∃ x c, dstOf ops j = some x ∧ gOf (s.ev x) = some c ∧ if (c == some want) = true then opE P Ev o.op k s e else e = .st skipA .none
theorem inv_skip {S : Nat → Prop} {w0 w : World} {A : Nat → Prop} {s : St} {a : Act} {dst : Option Tmp} (h : InvA S w0 A s a w) : InvA S w0 A (s.put dst skipA) (a.put dst undef) w := by
  obtain ⟨h1, h2, h3, G, η, hG, hrel, hm, h4⟩ := h
  obtain ⟨p1, p2, p3⟩ := put_rest (s := s) (dst := dst) (r := skipA)
  exact ⟨h1, by rw [act_size.1, h2, p1], by rw [act_size.2, h3], G, η, hG, rel_put h2 hrel rfl, by rw [p2]; exact hm, h4⟩
theorem gOf_some {a : AV} {c : Option Bool} (h : gOf a = some c) : (∃ b, c = some b ∧ a = .val (.bool b)) ∨ c = none ∧ a = skipA := by
  unfold gOf at h
  split at h
  · rename_i b
    simp only [Option.some.injEq] at h
    exact .inl ⟨b, h.symm, rfl⟩
  · simp only [Option.some.injEq] at h
    exact .inr ⟨h.symm, rfl⟩
  · cases h
theorem yielded_of {S : Nat → Prop} {w0 w : World} {A : Nat → Prop} {s : St} {a : Act} {ops : List Oper} {j : Nat} {x : Operand} {c : Option Bool} (h : InvA S w0 A s a w) (hd : dstOf ops j = some x) (hx : gOf (s.ev x) = some c) : yielded ops.toArray a.tmps j = c := by
  obtain ⟨h1, h2, h3, G, η, hG, hrel, hm, h4⟩ := h
  have hr := ev_rep hrel x
  unfold dstOf at hd
  rw [nth_eq] at hd
  split at hd
  · rename_i o ho
    split at hd
    · rename_i d hdst
      simp only [Option.some.injEq] at hd
      subst hd
      rcases gOf_some hx with ⟨b, rfl, e⟩ | ⟨rfl, e⟩
      · rw [e] at hr
        have hr' : a.tmps.getD d undef = .bool b := hr
        have : a.tmps[d]? = some (.bool b) := by
          rw [Array.getD_eq_getD_getElem?] at hr'
          cases hq : a.tmps[d]? with
          | none => rw [hq] at hr'; simp [undef] at hr'
          | some v => rw [hq] at hr'; simpa using hr'
        unfold yielded
        simp [ho, hdst, this]
      · rw [e] at hr
        have hr' : a.tmps.getD d undef = .tuple #[] := hr
        rw [Array.getD_eq_getD_getElem?] at hr'
        unfold yielded
        cases hq : a.tmps[d]? with
        | none => simp [ho, hdst, hq]
        | some v =>
          rw [hq] at hr'
          simp only [Option.getD_some] at hr'
          simp [ho, hdst, hq, hr']
    · simp at hd
  · simp at hd
theorem wpOp_sound {S : Nat → Prop} {w0 w : World} {A : Nat → Prop} {s : St} {a : Act} {ops : List Oper} {i : Nat} {o : Oper} {k : Nat} {e : Eff} {Q : Exit → Act → World → Prop} {K : Act → World → Prop} (hev : Ev w) (hI : InvA S w0 A s a w)
    (hk : ∀ id, k ≤ id → id < k + 4 → ¬ A id) (ho : ops[i]? = some o) (he : opG P Ev ops o k s e) (hK : ∀ a' w', InvA S w0 (tk A k) (app o.dst e s) a' w' → K a' w') : wpOp P ops.toArray Q i K a w := by
  unfold wpOp
  have ho' : ops.toArray[i]? = some o := by simpa using ho
  rw [ho']
  dsimp only
  unfold opG at he
  split at he
  · rename_i hg
    have : Region.wanted o (yielded ops.toArray a.tmps) = true := by simp [Region.wanted, hg]
    rw [if_pos this]
    exact .inl (op_sound hev hI hk he hK)
  · rename_i j want hg
    obtain ⟨x, c, hd, hx, he⟩ := he
    have hy := yielded_of hI hd hx
    have hw : Region.wanted o (yielded ops.toArray a.tmps) = (c == some want) := by
      simp only [Region.wanted, hg, hy]
    rw [hw]
    split at he
    · rename_i hb
      rw [if_pos hb]
      exact .inl (op_sound hev hI hk he hK)
    · rename_i hb
      rw [if_neg hb]
      subst he
      exact hK _ _ ((inv_skip hI).mono fun id h => .inl h)
def Chain (P : Program) (Ev : World → Prop) (ops : List Oper) : List Oper → List Eff → Nat → St → Prop
  | [], [], _, _ => True
  | o :: l, e :: es, k, s => opG P Ev ops o k s e ∧ Chain P Ev ops l es (k + 4) (app o.dst e s)
  | _, _, _, _ => False
def stX (X : Nat → Bool) : Nat → St → List Oper → List Eff → St
  | i, s, o :: l, e :: es => stX X (i + 1) (if X i then app o.dst e s else s) l es
  | _, s, _, _ => s
def stAll (s : St) (l : List Oper) (es : List Eff) : St := stX (fun _ => true) 0 s l es
def states : St → List Oper → List Eff → List St
  | s, o :: l, e :: es => s :: states (app o.dst e s) l es
  | _, _, _ => []
theorem stX_all (s : St) : ∀ (i j : Nat) (l : List Oper) (es : List Eff) (s : St), stX (fun _ => true) i s l es = stX (fun _ => true) j s l es
  | i, j, [], _, s => by simp [stX]
  | i, j, _ :: _, [], s => by simp [stX]
  | i, j, o :: l, e :: es, s => by simpa [stX] using stX_all s (i + 1) (j + 1) l es _
theorem run_ex {ops : List Oper} {K : Option (List St) → St → Prop} : ∀ (l : List Oper) (k : Nat) (lg : Option (List St)) (s : St), run P Ev ops l k lg s K →
    ∃ es : List Eff, es.length = l.length ∧ Chain P Ev ops l es k s ∧ K (lg.map fun x => (states s l es).reverse ++ x) { stAll s l es with next := k + 4 * l.length }
  | [], k, lg, s, h => ⟨[], rfl, trivial, by simpa [stAll, stX, states, run] using h⟩
  | o :: l, k, lg, s, h => by
    have step : ∀ e, opG P Ev ops o k s e → run P Ev ops l (k + 4) (lg.map (s :: ·)) (app o.dst e s) K → ∃ es : List Eff, es.length = (o :: l).length ∧ Chain P Ev ops (o :: l) es k s ∧ K (lg.map fun x => (states s (o :: l) es).reverse ++ x) { stAll s (o :: l) es with next := k + 4 * (o :: l).length } := by
      intro e he hr
      obtain ⟨es, h1, h2, h3⟩ := run_ex l _ _ _ hr
      refine ⟨e :: es, by simp [h1], ⟨he, h2⟩, ?_⟩
      have e1 : stAll s (o :: l) (e :: es) = stAll (app o.dst e s) l es := by
        simp only [stAll, stX, if_true]
        exact stX_all s _ _ _ _ _
      have e2 : k + 4 * (o :: l).length = k + 4 + 4 * l.length := by simp; omega
      rw [e1, e2]
      cases lg with
      | none => exact h3
      | some x => simpa [states] using h3
    unfold run at h
    split at h
    · rename_i hg
      obtain ⟨e, he, hr⟩ := opK_E h
      exact step e (by unfold opG; rw [hg]; exact he) hr
    · rename_i j want hg
      unfold gdK at h
      split at h
      · rename_i x hd
        split at h
        · rename_i b hx
          unfold br at h
          cases hb : b == want with
          | true =>
            rw [hb, if_pos rfl] at h
            obtain ⟨e, he, hr⟩ := opK_E h
            refine step e ?_ hr
            unfold opG
            rw [hg]
            exact ⟨x, some b, hd, hx, by rw [if_pos (by simpa using hb)]; exact he⟩
          | false =>
            rw [hb, if_neg (by simp)] at h
            refine step (.st skipA .none) ?_ h
            unfold opG
            rw [hg]
            exact ⟨x, some b, hd, hx, by rw [if_neg (by simpa using hb)]⟩
        · rename_i hx
          refine step (.st skipA .none) ?_ h
          unfold opG
          rw [hg]
          exact ⟨x, none, hd, hx, by rw [if_neg (by simp)]⟩
        · exact h.elim
      · exact h.elim
theorem chain_ops {S : Nat → Prop} {w0 : World} (hE : Stable Ev) (h0 : Ev w0) {ops : List Oper} {Q : Exit → Act → World → Prop} : ∀ (l : List Oper) (es : List Eff) (i k : Nat) (s : St) (a : Act) (w : World), (∀ j o, l[j]? = some o → ops[i + j]? = some o) → Chain P Ev ops l es k s →
    InvA S w0 (· < k) s a w → (∀ a' w', InvA S w0 (· < k + 4 * l.length) (stAll s l es) a' w' → Q .normal a' w') → wpOps P ops.toArray Q (List.range' i l.length) a w
  | [], es, i, k, s, a, w, _, hc, hI, hQ => by
    refine hQ a w ?_
    cases es with
    | nil => simpa [stAll, stX] using hI
    | cons _ _ => exact hc.elim
  | o :: l, [], i, k, s, a, w, _, hc, hI, hQ => hc.elim
  | o :: l, e :: es, i, k, s, a, w, hl, hc, hI, hQ => by
    obtain ⟨he, hc⟩ := hc
    simp only [List.length_cons, List.range'_succ, wpOps_cons]
    refine wpOp_sound (hI.ev hE h0) hI (fun id h1 h2 => by omega) (by simpa using hl 0 o rfl) he fun a' w' hI' => ?_
    refine chain_ops hE h0 l es (i + 1) (k + 4) _ a' w' (fun j o hj => by have := hl (j + 1) o (by simpa using hj); rwa [show i + 1 + j = i + (j + 1) by omega]) hc (hI'.mono fun id h => ?_) fun a'' w'' hI'' => hQ a'' w'' ?_
    · rcases h with h | h <;> omega
    · have e1 : stAll s (o :: l) (e :: es) = stAll (app o.dst e s) l es := by
        simp only [stAll, stX, if_true]
        exact stX_all s _ _ _ _ _
      rw [e1]
      exact hI''.mono fun id h => by simp; omega
theorem region_text {S : Nat → Prop} {w0 w : World} (hE : Stable Ev) (h0 : Ev w0) {l : List Oper} {id : Nat} {s : St} {a : Act} {lg : Option (List St)} {K : Option (List St) → St → Prop} {Q : Exit → Act → World → Prop} (h : run P Ev l l s.next lg s K) (hI : Inv S w0 s a w)
    (hK : ∀ lg s' a' w', K lg s' → Inv S w0 s' a' w' → Q .normal a' w') : (Code.region id l.toArray false).wp P Q a w := by
  obtain ⟨es, h1, h2, h3⟩ := run_ex l _ _ _ h
  refine wp_region ?_
  have := chain_ops (Q := Q) hE h0 l es 0 s.next s a w (fun j o hj => by simpa using hj) h2 (inv_iff.1 hI) fun a' w' hI' => hK _ _ a' w' h3 (inv_iff.2 hI')
  rw [List.size_toArray, List.range_eq_range']
  exact this
end
end E
end
section
namespace E
section
variable {P : Program} {Ev : World → Prop}
def effH : Eff → Nat → Option (Option Blk)
  | .st _ .none, _ => none
  | .st _ (.set i b), id => if id = i then some (some b) else none
  | .st _ (.move o i b), id => if id = i then some (some b) else if id = o then some none else none
  | .st _ (.del i), id => if id = i then some none else none
  | .cl _ nb, id => match look id nb with
    | some b => some (some b)
    | none => none
def effR : Eff → AV
  | .st r _ => r
  | .cl r _ => r
theorem app_T {dst : Option Tmp} {e : Eff} {s : St} {t : Nat} : look t (app dst e s).tmps = if dst = some t ∧ t < s.n then some (effR e) else look t s.tmps := by
  cases e with
  | st r u => show look t ((s.put dst r).upd u).tmps = _; rw [(upd_heap (s := s)).2.1]; exact look_put
  | cl r nb => show look t ((s.put dst r).more nb).tmps = _; rw [(more_heap (s := s)).2.1]; exact look_put
theorem app_H {dst : Option Tmp} {e : Eff} {s : St} {id : Nat} : look id (app dst e s).heap = match effH e id with | some x => x | none => look id s.heap := by
  cases e with
  | st r u =>
    show look id ((s.put dst r).upd u).heap = _
    rw [(upd_heap (s := s)).1]
    cases u with
    | none => rfl
    | set i b =>
      simp only [Upd.on, effH, look_hset]
      split <;> rfl
    | move o i b =>
      simp only [Upd.on, effH, look_hset, look_hdel]
      split
      · rfl
      · split <;> rfl
    | del i =>
      simp only [Upd.on, effH, look_hdel]
      split <;> rfl
  | cl r nb =>
    show look id ((s.put dst r).more nb).heap = _
    rw [(more_heap (s := s)).1, look_append]
    simp only [effH]
    cases look id nb <;> rfl
theorem app_rest {dst : Option Tmp} {e : Eff} {s : St} : (app dst e s).n = s.n ∧ (app dst e s).next = s.next := by
  cases e with
  | st r u => exact ⟨(upd_heap (s := s)).2.2.1, (upd_heap (s := s)).2.2.2⟩
  | cl r nb => exact ⟨(more_heap (s := s)).2.2.1, (more_heap (s := s)).2.2.2⟩
def Eqv (s s' : St) : Prop := s.n = s'.n ∧ s.next = s'.next ∧ (∀ t, look t s.tmps = look t s'.tmps) ∧ ∀ id, look id s.heap = look id s'.heap
theorem Eqv.refl (s : St) : Eqv s s := ⟨rfl, rfl, fun _ => rfl, fun _ => rfl⟩
theorem Eqv.trans {a b c : St} (h : Eqv a b) (h' : Eqv b c) : Eqv a c := ⟨h.1.trans h'.1, h.2.1.trans h'.2.1, fun t => (h.2.2.1 t).trans (h'.2.2.1 t), fun t => (h.2.2.2 t).trans (h'.2.2.2 t)⟩
theorem Eqv.symm {a b : St} (h : Eqv a b) : Eqv b a := ⟨h.1.symm, h.2.1.symm, fun t => (h.2.2.1 t).symm, fun t => (h.2.2.2 t).symm⟩
theorem Eqv.app {s s' : St} (h : Eqv s s') (dst : Option Tmp) (e : Eff) : Eqv (app dst e s) (app dst e s') := by
  obtain ⟨h1, h2, h3, h4⟩ := h
  refine ⟨by rw [app_rest.1, app_rest.1, h1], by rw [app_rest.2, app_rest.2, h2], fun t => ?_, fun id => ?_⟩
  · rw [app_T, app_T, h1, h3]
  · rw [app_H, app_H, h4]
theorem Eqv.inv {S : Nat → Prop} {w0 w : World} {A : Nat → Prop} {s s' : St} {a : Act} (h : Eqv s s') (hI : InvA S w0 A s a w) : InvA S w0 A s' a w := by
  obtain ⟨e1, e2, e3, e4⟩ := h
  obtain ⟨h1, h2, h3, G, η, hG, hrel, hm, h4⟩ := hI
  refine ⟨h1, by rw [h2, e1], h3, G, η, hG, fun t x hx => hrel t x (by rw [e3]; exact hx), ⟨fun id b hb => hm.rep id b (by rw [e4]; exact hb), fun id id' b b' v v' g hb hb' => hm.inj id id' b b' v v' g (by rw [e4]; exact hb) (by rw [e4]; exact hb')⟩, h4⟩
theorem stX_congr {X : Nat → Bool} : ∀ (l : List Oper) (es : List Eff) (i : Nat) {s s' : St}, Eqv s s' → Eqv (stX X i s l es) (stX X i s' l es)
  | [], _, _, _, _, h => by simpa [stX] using h
  | _ :: _, [], _, _, _, h => by simpa [stX] using h
  | o :: l, e :: es, i, s, s', h => by
    simp only [stX]
    refine stX_congr l es (i + 1) ?_
    split
    · exact h.app _ _
    · exact h
theorem app_comm {s : St} {d d' : Option Tmp} {e e' : Eff} (hd : ∀ t, d = some t → d' ≠ some t) (he : ∀ id, effH e id ≠ none → effH e' id = none) : Eqv (app d e (app d' e' s)) (app d' e' (app d e s)) := by
  refine ⟨by rw [app_rest.1, app_rest.1, app_rest.1, app_rest.1], by rw [app_rest.2, app_rest.2, app_rest.2, app_rest.2], fun t => ?_, fun id => ?_⟩
  · rw [app_T, app_T, app_T, app_T, app_rest.1, app_rest.1]
    by_cases h1 : d = some t
    · have h2 := hd t h1
      simp [h1, h2]
    · simp [h1]
  · rw [app_H, app_H, app_H, app_H]
    cases h1 : effH e id with
    | none => rfl
    | some x =>
      have := he id (by rw [h1]; simp)
      simp [this]
theorem stX_push {X : Nat → Bool} {d : Option Tmp} {e : Eff} : ∀ (l : List Oper) (es : List Eff) (i : Nat) (s : St), (∀ j o f, l[j]? = some o → es[j]? = some f → X (i + j) = true → (∀ t, d = some t → o.dst ≠ some t) ∧ ∀ id, effH e id ≠ none → effH f id = none) →
    Eqv (stX X i (app d e s) l es) (app d e (stX X i s l es))
  | [], _, _, s, _ => by simpa [stX] using Eqv.refl _
  | _ :: _, [], _, s, _ => by simpa [stX] using Eqv.refl _
  | o :: l, f :: es, i, s, h => by
    simp only [stX]
    have ih := fun s => stX_push (X := X) (d := d) (e := e) l es (i + 1) s fun j o f h1 h2 h3 => h (j + 1) o f (by simpa using h1) (by simpa using h2) (by rwa [show i + (j + 1) = i + 1 + j by omega])
    cases hX : X i with
    | false => simpa using ih s
    | true =>
      simp only [if_true]
      have h0 := h 0 o f rfl rfl (by simpa using hX)
      exact (stX_congr l es (i + 1) (app_comm h0.1 h0.2).symm).trans (ih _)
theorem stX_agree {X Y : Nat → Bool} : ∀ (l : List Oper) (es : List Eff) (i : Nat) (s : St), (∀ j, j < l.length → X (i + j) = Y (i + j)) → stX X i s l es = stX Y i s l es
  | [], _, _, s, _ => by simp [stX]
  | _ :: _, [], _, s, _ => by simp [stX]
  | o :: l, f :: es, i, s, h => by
    simp only [stX]
    have h0 := h 0 (by simp)
    simp only [Nat.add_zero] at h0
    rw [h0]
    exact stX_agree l es (i + 1) _ fun j hj => by have := h (j + 1) (by simp; omega); rwa [show i + 1 + j = i + (j + 1) by omega]
theorem stX_insert {X : Nat → Bool} {m : Nat} : ∀ (l : List Oper) (es : List Eff) (i : Nat) (s : St) (o : Oper) (e : Eff), l[m]? = some o → es[m]? = some e → X (i + m) = false →
    (∀ j o' f, m < j → l[j]? = some o' → es[j]? = some f → X (i + j) = true → (∀ t, o.dst = some t → o'.dst ≠ some t) ∧ ∀ id, effH e id ≠ none → effH f id = none) →
    Eqv (stX (fun j => X j || j == i + m) i s l es) (app o.dst e (stX X i s l es)) := by
  induction m with
  | zero =>
    intro l es i s o e ho he hX h
    match l, es, ho, he with
    | o' :: l, e' :: es, ho, he =>
      simp only [List.getElem?_cons_zero, Option.some.injEq] at ho he
      subst ho he
      simp only [Nat.add_zero] at hX
      simp only [stX, hX, Nat.add_zero, beq_self_eq_true, Bool.false_or, if_true, Bool.false_eq_true, if_false]
      rw [stX_agree (X := fun j => X j || j == i) (Y := X) l es (i + 1) _ (fun j hj => by
        have : (i + 1 + j == i) = false := by simp; omega
        simp [this])]
      exact stX_push l es (i + 1) s fun j o' f h1 h2 h3 => h (j + 1) o' f (by omega) (by simpa using h1) (by simpa using h2) (by rwa [show i + (j + 1) = i + 1 + j by omega])
  | succ m ih =>
    intro l es i s o e ho he hX h
    match l, es, ho, he with
    | o' :: l, e' :: es, ho, he =>
      simp only [List.getElem?_cons_succ] at ho he
      have hne : (i == i + (m + 1)) = false := by simp
      simp only [stX, hne, Bool.or_false]
      have := ih l es (i + 1) (if X i = true then app o'.dst e' s else s) o e ho he (by rwa [show i + 1 + m = i + (m + 1) by omega]) fun j o' f h1 h2 h3 h4 => h (j + 1) o' f (by omega) (by simpa using h2) (by simpa using h3) (by rwa [show i + (j + 1) = i + 1 + j by omega])
      rw [show i + (m + 1) = i + 1 + m by omega]
      exact this
theorem stX_slot {X Y : Nat → Bool} {t : Nat} : ∀ (l : List Oper) (es : List Eff) (i : Nat) (s s' : St), s.n = s'.n → look t s.tmps = look t s'.tmps → (∀ j o, l[j]? = some o → X (i + j) ≠ Y (i + j) → o.dst ≠ some t) → look t (stX X i s l es).tmps = look t (stX Y i s' l es).tmps
  | [], _, _, s, s', _, h, _ => by simpa [stX] using h
  | _ :: _, [], _, s, s', _, h, _ => by simpa [stX] using h
  | o :: l, f :: es, i, s, s', hn, h, hd => by
    simp only [stX]
    have h0 := hd 0 o rfl
    simp only [Nat.add_zero] at h0
    refine stX_slot l es (i + 1) _ _ ?_ ?_ fun j o h1 h2 => hd (j + 1) o (by simpa using h1) (by rwa [show i + (j + 1) = i + 1 + j by omega])
    · cases X i <;> cases Y i <;> simp [app_rest.1, hn]
    · cases hX : X i <;> cases hY : Y i
      · simpa using h
      · have := h0 (by rw [hX, hY]; simp)
        simp only [if_true, Bool.false_eq_true, if_false]
        rw [app_T, if_neg (fun e => this e.1)]
        exact h
      · have := h0 (by rw [hX, hY]; simp)
        simp only [if_true, Bool.false_eq_true, if_false]
        rw [app_T, if_neg (fun e => this e.1)]
        exact h
      · simp only [if_true]
        rw [app_T, app_T, hn, h]
theorem stX_blk {X Y : Nat → Bool} {id : Nat} : ∀ (l : List Oper) (es : List Eff) (i : Nat) (s s' : St), look id s.heap = look id s'.heap → (∀ j f, es[j]? = some f → j < l.length → X (i + j) ≠ Y (i + j) → effH f id = none) → look id (stX X i s l es).heap = look id (stX Y i s' l es).heap
  | [], _, _, s, s', h, _ => by simpa [stX] using h
  | _ :: _, [], _, s, s', h, _ => by simpa [stX] using h
  | o :: l, f :: es, i, s, s', h, hd => by
    simp only [stX]
    have h0 := hd 0 f rfl (by simp)
    simp only [Nat.add_zero] at h0
    refine stX_blk l es (i + 1) _ _ ?_ fun j f h1 h2 h3 => hd (j + 1) f (by simpa using h1) (by simp; omega) (by rwa [show i + (j + 1) = i + 1 + j by omega])
    cases hX : X i <;> cases hY : Y i
    · simpa using h
    · have := h0 (by rw [hX, hY]; simp)
      simp only [if_true, Bool.false_eq_true, if_false]
      rw [app_H, this]
      exact h
    · have := h0 (by rw [hX, hY]; simp)
      simp only [if_true, Bool.false_eq_true, if_false]
      rw [app_H, this]
      exact h
    · simp only [if_true]
      rw [app_H, app_H, h]
theorem stX_rest {X : Nat → Bool} : ∀ (l : List Oper) (es : List Eff) (i : Nat) (s : St), (stX X i s l es).n = s.n ∧ (stX X i s l es).next = s.next
  | [], _, _, s => by simp [stX]
  | _ :: _, [], _, s => by simp [stX]
  | o :: l, f :: es, i, s => by
    simp only [stX]
    have := stX_rest (X := X) l es (i + 1) (if X i = true then app o.dst f s else s)
    rw [this.1, this.2]
    split
    · exact app_rest
    · exact ⟨rfl, rfl⟩
theorem states_at : ∀ (l : List Oper) (es : List Eff) (s : St) (m : Nat) (o : Oper) (e : Eff), l[m]? = some o → es[m]? = some e → (states s l es)[m]? = some (stX (fun j => decide (j < m)) 0 s l es)
  | [], es, s, m, o, e, ho, _ => by simp at ho
  | _ :: _, [], s, m, o, e, _, he => by simp at he
  | o' :: l, e' :: es, s, 0, o, e, ho, he => by
    simp only [states, List.getElem?_cons_zero, Option.some.injEq, stX, Nat.lt_irrefl, decide_false, Bool.false_eq_true, if_false]
    have : ∀ (l : List Oper) (es : List Eff) (i : Nat), 0 < i → stX (fun j => decide (j < 0)) i s l es = s := by
      intro l
      induction l with
      | nil => intro es i _; simp [stX]
      | cons o l ih =>
        intro es i hi
        cases es with
        | nil => simp [stX]
        | cons e es => simpa [stX] using ih es (i + 1) (by omega)
    exact (this l es 1 (by omega)).symm
  | o' :: l, e' :: es, s, m + 1, o, e, ho, he => by
    simp only [states, List.getElem?_cons_succ]
    rw [states_at l es (app o'.dst e' s) m o e (by simpa using ho) (by simpa using he)]
    simp only [stX, Nat.zero_lt_succ, decide_true, if_true, Nat.zero_add]
    congr 1
    have : ∀ (l : List Oper) (es : List Eff) (i : Nat) (s : St), stX (fun j => decide (j < m)) i s l es = stX (fun j => decide (j < m + 1)) (i + 1) s l es := by
      intro l
      induction l with
      | nil => intro es i s; simp [stX]
      | cons o l ih =>
        intro es i s
        cases es with
        | nil => simp [stX]
        | cons e es =>
          simp only [stX]
          rw [ih es (i + 1)]
          by_cases hlt : i < m
          · rw [if_pos (by simpa using hlt), if_pos (by simpa using hlt)]
          · rw [if_neg (by simpa using hlt), if_neg (by simpa using hlt)]
    exact this l es 0 _
theorem chain_at {ops : List Oper} : ∀ (l : List Oper) (es : List Eff) (k : Nat) (s : St) (m : Nat) (o : Oper) (e : Eff), Chain P Ev ops l es k s → l[m]? = some o → es[m]? = some e → opG P Ev ops o (k + 4 * m) (stX (fun j => decide (j < m)) 0 s l es) e
  | [], es, k, s, m, o, e, _, ho, _ => by simp at ho
  | _ :: _, [], k, s, m, o, e, h, _, _ => h.elim
  | o' :: l, e' :: es, k, s, m, o, e, h, ho, he => by
    have hst := states_at (o' :: l) (e' :: es) s m o e ho he
    cases m with
    | zero =>
      simp only [states, List.getElem?_cons_zero, Option.some.injEq] at hst ho he
      subst ho he
      rw [← hst]
      exact h.1
    | succ m =>
      have ih := chain_at l es (k + 4) (app o'.dst e' s) m o e h.2 (by simpa using ho) (by simpa using he)
      have hst2 := states_at l es (app o'.dst e' s) m o e (by simpa using ho) (by simpa using he)
      simp only [states, List.getElem?_cons_succ] at hst
      rw [hst2] at hst
      simp only [Option.some.injEq] at hst
      rw [← hst, show k + 4 * (m + 1) = k + 4 + 4 * m by omega]
      exact ih
end
end E
end
end Go.Proofs.YtbhienpbfidgjaaGreatDoor
