/- Boards: Parse. Conditions: the library's Split, Reverse and Join as said; the table of kinds lies in memory. -/
import Derived.Test.YtbhienpbfidgjaaGreatDoorF4
import Derived.Test.YtbhienpbfidgjaaGreatDoorF5
import Derived.Lib.Split
import Derived.Lib.SplitLaws
set_option linter.unusedVariables false
set_option linter.unusedSimpArgs false
namespace Go.Proofs.YtbhienpbfidgjaaGreatDoor
open Go.RowKit
def splitS (s sep : ByteArray) : List ByteArray := Lib.splitB sep 0 (Lib.countB s sep) s
def MaxAt (w : World) : Prop := ∃ m, w.cell? ⟨2, 0, none⟩ = some (.int .i64 m)
theorem MaxAt.below {w V : World} (h : MaxAt w) (hb : Below w.heap.size w V) : MaxAt V := h.elim fun m hm => ⟨m, below_at hb hm⟩
def SplitOK : Prop := ∀ (s sep : ByteArray) (w : World), MaxAt w → s.size ≤ 100000 → 1 ≤ sep.size → Calls Tryz.prog 79 #[.string s, .string sep] w fun e w' =>
  e = .returned (.slice (some ⟨w.heap.size, 0, none⟩) (splitS s sep).length (splitS s sep).length) ∧ w' = w.alloc (.cells ((splitS s sep).map Value.string).toArray 9)
theorem splitB_size (sep : ByteArray) : ∀ (k : Nat) (s : ByteArray), ∀ x ∈ Lib.splitB sep 0 k s, x.size ≤ s.size
  | 0, s, x, h => by simp [Lib.splitB] at h; rw [h]; exact Nat.le_refl _
  | k + 1, s, x, h => by
    unfold Lib.splitB at h
    split at h
    · simp at h; rw [h]; exact Nat.le_refl _
    · rcases List.mem_cons.1 h with rfl | h
      · simp; omega
      · have := splitB_size sep k _ x h
        simp at this
        omega
theorem splitB_len (sep : ByteArray) (h1 : 1 ≤ sep.size) : ∀ (k : Nat) (s : ByteArray) (m : Nat), s.size ≤ m → (Lib.splitB sep 0 k s).length ≤ k + 1
  | 0, s, m, h => by simp [Lib.splitB]
  | k + 1, s, m, h => by
    unfold Lib.splitB
    split
    · simp
    · have := splitB_len sep h1 k (s.extract ((Lib.indexB s sep).toNat + sep.size) s.size) m (by simp; omega)
      simp only [List.length_cons]
      omega
theorem splitS_len (s sep : ByteArray) (h1 : 1 ≤ sep.size) (m : Nat) (h : s.size ≤ m) : (splitS s sep).length ≤ m + 1 := by
  have h2 := Lib.countB_le sep h1 s.size s (Nat.le_refl _)
  have h3 := splitB_len sep h1 (Lib.countB s sep) s m h
  unfold splitS
  omega
def pcsB (c : UInt8) : Option (List Int) := if 49 ≤ c.toNat ∧ c.toNat ≤ 56 then some (List.replicate (c.toNat - 48) 0) else (pieceO c.toNat).map fun p => [p]
def pcsStep (acc : Option (List Int)) (c : UInt8) : Option (List Int) := match acc, pcsB c with
  | some a, some b => some (a ++ b)
  | _, _ => none
def pcsL (l : List UInt8) : Option (List Int) := l.foldl pcsStep (some [])
theorem pcsL_snoc (l : List UInt8) (c : UInt8) : pcsL (l ++ [c]) = pcsStep (pcsL l) c := by simp [pcsL]
theorem pcs_none (l : List UInt8) : l.foldl pcsStep none = none := by
  induction l with
  | nil => rfl
  | cons c l ih => exact ih
theorem pcsL_none {l r : List UInt8} (h : pcsL l = none) : pcsL (l ++ r) = none := by
  unfold pcsL at *
  rw [List.foldl_append, h]
  exact pcs_none r
def boardO (t : ByteArray) : Option (Nat × Nat × List Int) :=
  if 8 < (splitS t ⟨#[47]⟩).length then none
  else match pcsL ((splitS t ⟨#[47]⟩).reverse.map (·.data.toList)).flatten with
    | none => none
    | some ps => if bvalid ((ps.length / (splitS t ⟨#[47]⟩).length : Nat) : Int) ((splitS t ⟨#[47]⟩).length : Nat) ps && boardL (ps.length / (splitS t ⟨#[47]⟩).length) (splitS t ⟨#[47]⟩).length ps == t.data.toList then some (ps.length / (splitS t ⟨#[47]⟩).length, (splitS t ⟨#[47]⟩).length, ps) else none
theorem boardO_long {t : ByteArray} (h : 8 < (splitS t ⟨#[47]⟩).length) : boardO t = none := by unfold boardO; rw [if_pos h]
theorem boardO_bad {t : ByteArray} (h : pcsL ((splitS t ⟨#[47]⟩).reverse.map (·.data.toList)).flatten = none) : boardO t = none := by
  unfold boardO
  split
  · rfl
  · rw [h]
theorem boardO_ps {t : ByteArray} {ps : List Int} (h8 : ¬ 8 < (splitS t ⟨#[47]⟩).length) (h : pcsL ((splitS t ⟨#[47]⟩).reverse.map (·.data.toList)).flatten = some ps) :
    boardO t = if bvalid ((ps.length / (splitS t ⟨#[47]⟩).length : Nat) : Int) ((splitS t ⟨#[47]⟩).length : Nat) ps && boardL (ps.length / (splitS t ⟨#[47]⟩).length) (splitS t ⟨#[47]⟩).length ps == t.data.toList then some (ps.length / (splitS t ⟨#[47]⟩).length, (splitS t ⟨#[47]⟩).length, ps) else none := by
  unfold boardO
  rw [if_neg h8, h]
def pcV (p : Int) : Value := .int .i8 p
def noBoard : Value := .agg #[.int .i64 0, .int .i64 0, .slice none 0 0]
def BoardIs (B : Nat) (t : ByteArray) (e : Ending) (W : World) : Prop := match boardO t with
  | some (f, r, ps) => ∃ po cap, e = .returned (.tuple #[bdV f r po ps.length cap, .int .i64 0]) ∧ SlcAt W po ps ∧ ps.length ≤ cap ∧ cap ≤ 9223372036854775807 ∧ ∀ a, po = some a → B ≤ a.block
  | none => e = .returned (.tuple #[noBoard, .int .i64 6])
theorem BoardIs.up {B B' : Nat} {t : ByteArray} {e : Ending} {W : World} (hB : B ≤ B') (h : BoardIs B' t e W) : BoardIs B t e W := by
  unfold BoardIs at *
  split at h
  · obtain ⟨po, cap, h1, h2, h3, h4, h5⟩ := h
    exact ⟨po, cap, h1, h2, h3, h4, fun a ha => Nat.le_trans hB (h5 a ha)⟩
  · exact h
theorem splitB_pos (sep : ByteArray) (k : Nat) (s : ByteArray) : 1 ≤ (Lib.splitB sep 0 k s).length := by
  cases k with
  | zero => simp [Lib.splitB]
  | succ k => unfold Lib.splitB; split <;> simp
theorem own_slc {w : World} {B : Nat} {po : Option Addr} {cap : Nat} {ps : List Int} (h : w.ownsRow B 48 1 (.slice po ps.length cap) ps.length (ps.map pcV)) : SlcAt w po ps ∧ ps.length ≤ cap ∧ cap ≤ 9223372036854775807 := by
  rcases h.2 with ⟨e, h0⟩ | ⟨g, cap', cur, e, _, hg, h1, h2, _⟩
  · simp only [Value.slice.injEq] at e
    exact ⟨.inl (List.length_eq_zero_iff.1 h0), by omega, by omega⟩
  · simp only [Value.slice.injEq, true_and] at e
    obtain ⟨rfl, rfl⟩ := e
    refine ⟨.inr ⟨g, 0, rfl, fun i p hp => ?_⟩, h1, h2⟩
    have hi := (List.getElem?_eq_some_iff.1 hp).1
    rw [Nat.zero_add, h.cellAt i (by omega), List.getElem?_map, hp]
    rfl
structure BPI (w : World) (B0 B1 B2 n : Nat) (R : List ByteArray) (v : Value) (acc : List Int) (W : World) : Prop where
  res : W.heap[B0]? = some (.cells #[.int .i64 0, .int .i64 0, .slice none 0 0] 40 (0, 0))
  str : W.ownsRow B1 9 1 (.slice (some ⟨B1, 0, none⟩) n n) n (R.map strV)
  box : W.heap[B2]? = some (.cells #[.int .i64 0, .int .i64 (n : Int), v] 40 (0, 0))
  row : W.ownsRow (B2 + 1) 48 1 v acc.length (acc.map pcV)
  below : Below B0 w W
theorem BPI.below' {w : World} {B0 B1 B2 n : Nat} {R : List ByteArray} {v : Value} {acc : List Int} {W V : World} (h : BPI w B0 B1 B2 n R v acc W) (hb : Below W.heap.size W V) : BPI w B0 B1 B2 n R v acc V :=
  ⟨below_blk hb h.res, own_below h.str hb, below_blk hb h.box, own_below h.row hb, h.below.trans (hb.mono (Nat.le_of_lt (lt_of_blk h.res)))⟩
theorem BPI.add {w : World} {B0 B1 B2 n m : Nat} {R : List ByteArray} {v v' : Value} {acc new : List Int} {W W2 w1 : World} (h : BPI w B0 B1 B2 n R v acc W) (h01 : B0 < B1) (h12 : B1 < B2) (hb : Below W.heap.size W W2)
    (hgrow : W2.grownBy w1 v.ownBlock) (hm : m = (acc ++ new).length) (hown' : w1.ownsRow (B2 + 1) 48 1 v' m ((acc ++ new).map pcV)) :
    w1.heap[B2]? = some (.cells #[.int .i64 0, .int .i64 (n : Int), v] 40 (0, 0)) ∧ BPI w B0 B1 B2 n R v' (acc ++ new) (w1.setCell ⟨B2, 2, none⟩ v') := by
  subst hm
  have h2 := h.below' hb
  have hne : ∀ k, k ≤ B2 → some k ≠ v.ownBlock := fun k hk e => by have := (h2.row.lt k e.symm).1; omega
  have hlt := lt_of_blk h2.box
  have k : ∀ (k : Nat) (o : Obj), k ≤ B2 → W2.heap[k]? = some o → w1.heap[k]? = some o := fun k o hk ho => (hgrow.block k (by omega) (hne k hk)).trans ho
  have hbx := k _ _ (Nat.le_refl _) h2.box
  have hs1 : w1.ownsRow B1 9 1 (.slice (some ⟨B1, 0, none⟩) n n) n (R.map strV) := h2.str.kept hgrow (.inr (by simpa [Value.ownBlock] using hne B1 (by omega)))
  refine ⟨hbx, ⟨?_, ?_, ?_, ?_, ?_⟩⟩
  · exact blk_other (k _ _ (by omega) h2.res) (by simp; omega) _
  · exact hs1.kept (grown_set (grown_refl _ _) (p := ⟨B2, 2, none⟩) (.inl rfl) _) (.inr (by simp [Value.ownBlock]; omega))
  · exact blk_at (blk_set hbx 2 _) (by simp)
  · exact hown'.kept (grown_set (grown_refl _ _) (p := ⟨B2, 2, none⟩) (.inl rfl) _) (by
      cases e : v'.ownBlock with
      | none => exact .inl rfl
      | some g => right; have := (hown'.lt g e).1; simp; omega)
  · exact (h2.below.grown hgrow (by omega) (fun g e => by have := (h2.row.lt g e).1; omega)).setCell (by simp; omega) _
end Go.Proofs.YtbhienpbfidgjaaGreatDoor
