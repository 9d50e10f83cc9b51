/- A region in whatever order. Conditions: as in each theorem. A region in whatever order, whole. Conditions: as in each theorem. Codes and functions on plain data are what the machine does. Conditions: as in each theorem. Walking in one word: the rules and what is known stand in the hypotheses. Conditions: as in each theorem. slices.Clone on pieces, on plain data. Conditions: as in each theorem. -/
import Derived.Test.YtbhienpbfidgjaaGreatDoorJ0
import Derived.Deep.LoopGhost
import Derived.Scope
set_option linter.unusedVariables false
set_option linter.unusedSimpArgs false
namespace Go.Proofs.YtbhienpbfidgjaaGreatDoor
open Go.RowKit
section
namespace E
section
variable {P : Program} {Ev : World → Prop}
mutual
theorem soft_frame {hp hp' : Hp} : ∀ (a : AV), (∀ id ∈ idsOf a, look id hp' = look id hp) → soft hp' a = soft hp a
  | .val _, _ => rfl
  | .nil, _ => rfl
  | .lst _, _ => rfl
  | .elm _ _, _ => rfl
  | .ref _ _, _ => rfl
  | .rel _ _ _ _, _ => rfl
  | .own id, h => by
    unfold soft
    rw [h id (by simp [idsOf])]
  | .agg cs, h => by simp only [soft]; rw [softL_frame cs h]
  | .tup cs, h => by simp only [soft]; rw [softL_frame cs h]
  | .fn f a b, h => by
    simp only [soft]
    rw [softL_frame a fun id hi => h id (by simp [idsOf, hi]), softL_frame b fun id hi => h id (by simp [idsOf, hi])]
  | .top, _ => rfl
theorem softL_frame {hp hp' : Hp} : ∀ (az : List AV), (∀ id ∈ idsL az, look id hp' = look id hp) → softL hp' az = softL hp az
  | [], _ => rfl
  | a :: az, h => by
    simp only [softL]
    rw [soft_frame a fun id hi => h id (by simp [idsL, hi]), softL_frame az fun id hi => h id (by simp [idsL, hi])]
end
theorem rowsOf_frame {hp hp' : Hp} {a : AV} (h : ∀ id ∈ idsOf a, look id hp' = look id hp) : rowsOf hp' a = rowsOf hp a := by
  cases a with
  | own id => have e := h id (by simp [idsOf]); simp only [rowsOf, e]
  | val v => cases v with
    | slice a n c => cases n <;> rfl
    | _ => rfl
  | _ => rfl
theorem aLoad_frame {hp hp' : Hp} {t : Option TI} {a : AV} (h : ∀ id ∈ idsOf a, look id hp' = look id hp) : aLoad hp' t a = aLoad hp t a := by
  cases a with
  | ref id off => have e := h id (by simp [idsOf]); simp only [aLoad, e]
  | rel id es i off => have e := h id (by simp [idsOf]); simp only [aLoad, e]
  | _ => rfl
theorem aConvX_frame {hp hp' : Hp} {e t v : Option TI} {a : AV} (h : ∀ id ∈ idsOf a, look id hp' = look id hp) : aConvX hp' e t v a = aConvX hp e t v a := by
  cases a with
  | own id => simp only [aConvX, aConvB, rowsOf_frame h]
  | lst rows => simp only [aConvX, aConvB, rowsOf_frame h]
  | _ => rfl
theorem aStore_frame {hp hp' : Hp} {t : Option TI} {a x : AV} (h : ∀ id ∈ idsOf a, look id hp' = look id hp) : aStore hp' t a x = aStore hp t a x := by
  unfold aStore
  cases a with
  | ref id off => have e := h id (by simp [idsOf]); simp only [e]
  | rel id es i off => have e := h id (by simp [idsOf]); simp only [e]
  | _ => rfl
theorem aLen_frame {hp hp' : Hp} {t : Option TI} {a : AV} (h : ∀ id ∈ idsOf a, look id hp' = look id hp) : aLen hp' t a = aLen hp t a := by
  cases a with
  | own id => have e := h id (by simp [idsOf]); simp only [aLen, e]
  | val v => cases v <;> rfl
  | _ => rfl
theorem aIndexAddr_frame {hp hp' : Hp} {t : Option TI} {a i : AV} (h : ∀ id ∈ idsOf a, look id hp' = look id hp) : aIndexAddr hp' t a i = aIndexAddr hp t a i := by
  unfold aIndexAddr
  cases a with
  | own id => have e := h id (by simp [idsOf]); simp only [e]
  | _ => rfl
theorem aAppend_frame {hp hp' : Hp} {k : Nat} {t : Option TI} {x y : AV} (hx : ∀ id ∈ idsOf x, look id hp' = look id hp) (hy : ∀ id ∈ idsOf y, look id hp' = look id hp) : aAppend hp' k t x y = aAppend hp k t x y := by
  unfold aAppend
  rw [rowsOf_frame hy]
  cases x with
  | own id => have e := hx id (by simp [idsOf]); simp only [e]
  | _ => rfl
theorem aBuiltin_frame {hp hp' : Hp} {k : Nat} {b : Builtin} {ts : List TypeId} {vs : List AV} (h : ∀ id ∈ idsL vs, look id hp' = look id hp) : aBuiltin P hp' k b ts vs = aBuiltin P hp k b ts vs := by
  rcases vs with _ | ⟨x, _ | ⟨y, _ | ⟨z, l⟩⟩⟩
  · cases b <;> rcases ts with _ | ⟨t, _ | ⟨t', _ | ⟨t'', l⟩⟩⟩ <;> rfl
  · have e := fun t => aLen_frame (hp := hp) (hp' := hp') (t := t) (a := x) fun id hi => h id (by simp [idsL, hi])
    cases b <;> rcases ts with _ | ⟨t, _ | ⟨t', _ | ⟨t'', l⟩⟩⟩ <;> first | rfl | exact e _
  · have e := fun t => aAppend_frame (k := k) (hp := hp) (hp' := hp') (t := t) (x := x) (y := y) (fun id hi => h id (by simp [idsL, hi])) (fun id hi => h id (by simp [idsL, hi]))
    cases b <;> rcases ts with _ | ⟨t, _ | ⟨t', _ | ⟨t'', l⟩⟩⟩ <;> first | rfl | (simp only [aBuiltin, e]; done)
  · cases b <;> rcases ts with _ | ⟨t, _ | ⟨t', _ | ⟨t'', l⟩⟩⟩ <;> rfl
set_option maxHeartbeats 2000000 in
theorem astep_frame {op : Op} {k : Nat} {vs : List AV} {hp hp' : Hp} (h : ∀ id ∈ idsL vs, look id hp' = look id hp) : astep P op k vs hp' = astep P op k vs hp := by
  have hc : ∀ x l, vs = x :: l → ∀ id ∈ idsOf x, look id hp' = look id hp := fun x l e id hi => h id (by rw [e]; simp [idsL, hi])
  cases op
  case load t a =>
    rcases vs with _ | ⟨x, _ | ⟨y, l⟩⟩
    · rfl
    · exact aLoad_frame (hc x [] rfl)
    · rfl
  case convert t v a =>
    rcases vs with _ | ⟨x, _ | ⟨y, l⟩⟩
    · rfl
    · exact aConvX_frame (hc x [] rfl)
    · rfl
  case store t a x =>
    rcases vs with _ | ⟨x, _ | ⟨y, _ | ⟨z, l⟩⟩⟩
    · rfl
    · rfl
    · exact aStore_frame (hc x [y] rfl)
    · rfl
  case indexAddr t a x =>
    rcases vs with _ | ⟨x, _ | ⟨y, _ | ⟨z, l⟩⟩⟩
    · rfl
    · rfl
    · exact aIndexAddr_frame (hc x [y] rfl)
    · rfl
  case call c =>
    simp only [astep]
    split
    · exact aBuiltin_frame h
    · rfl
  all_goals rcases vs with _ | ⟨x, _ | ⟨y, _ | ⟨z, _ | ⟨q, l⟩⟩⟩⟩
  all_goals first | rfl | (cases x <;> first | rfl | (rename_i v; cases v <;> first | rfl | (cases y <;> first | rfl | (cases z <;> rfl)))) | (rename_i fn _ _; cases fn <;> rfl)
theorem opnds_mem {op : Op} {t : Tmp} (h : Operand.tmp t ∈ opnds op) : Operand.tmp t ∈ op.operands.toList := by
  cases op <;> simp only [opnds, Op.operands] at h ⊢ <;> first | (simp at h; done) | simpa using h | skip
  case call c =>
    obtain ⟨cal, az, ts⟩ := c
    cases cal <;> simpa [Call.operands] using h
theorem looks_of {ops : Array Oper} {o : Oper} {t : Tmp} (h : Operand.tmp t ∈ opnds o.op) : t ∈ o.looksAt ops := by
  unfold Oper.looksAt
  refine List.mem_append.2 (.inl ?_)
  exact List.mem_filterMap.2 ⟨_, opnds_mem h, rfl⟩
theorem ev_frame {s s' : St} {ops : Array Oper} {o : Oper} (h : ∀ t ∈ o.looksAt ops, look t s'.tmps = look t s.tmps) : (opnds o.op).map s'.ev = (opnds o.op).map s.ev := by
  apply List.map_congr_left
  intro x hx
  cases x with
  | tmp t =>
    unfold St.ev
    dsimp only
    rw [h t (looks_of hx)]
  | const _ => rfl
  | global _ => rfl
  | func _ => rfl
theorem opE_frame {o : Oper} {ops : Array Oper} {k : Nat} {s s' : St} {e : Eff} (hT : ∀ t ∈ o.looksAt ops, look t s'.tmps = look t s.tmps) (hH : ∀ id ∈ rdOf o s, look id s'.heap = look id s.heap) (h : opE P Ev o.op k s e) : opE P Ev o.op k s' e := by
  have hev := ev_frame hT
  cases e with
  | st r u =>
    rcases h with ⟨h1, h2, h3⟩ | h
    · refine .inl ⟨h1, h2, ?_⟩
      rw [hev, astep_frame (hp := s.heap) hH]
      exact h3
    · exact .inr h
  | cl r nb =>
    obtain ⟨f, az, ts, hop, g, fs, cs, args, r0, nb0, h1, h2, h3, h4⟩ := h
    have hl : s'.ev f :: az.toList.map s'.ev = s.ev f :: az.toList.map s.ev := by
      have := hev
      rw [hop] at this
      simpa [opnds] using this
    refine ⟨f, az, ts, hop, g, fs, cs, args, r0, nb0, ?_, h2, ?_, h4⟩
    · rw [hl, softL_frame (hp := s.heap) _ fun id hi => hH id (by
        unfold rdOf
        rw [hop]
        simpa [opnds] using hi)]
      exact h1
    · rw [hl]
      exact h3
theorem opG_frame {o : Oper} {ops : List Oper} {k : Nat} {s s' : St} {e : Eff} (hT : ∀ t ∈ o.looksAt ops.toArray, look t s'.tmps = look t s.tmps) (hH : ∀ id ∈ rdOf o s, look id s'.heap = look id s.heap) (h : opG P Ev ops o k s e) : opG P Ev ops o k s' e := by
  unfold opG at h ⊢
  split at h
  · exact opE_frame hT hH h
  · rename_i j want hg
    obtain ⟨x, b, hd, hx, h⟩ := h
    refine ⟨x, b, hd, ?_, ?_⟩
    · have hd' := hd
      unfold dstOf at hd
      rw [nth_eq] at hd
      split at hd
      · rename_i o' ho'
        split at hd
        · rename_i d hdst
          simp only [Option.some.injEq] at hd
          subst hd
          have : d ∈ o.looksAt ops.toArray := by
            unfold Oper.looksAt
            refine List.mem_append.2 (.inr ?_)
            simp [hg, ho', hdst]
          unfold St.ev at hx ⊢
          dsimp only at hx ⊢
          rw [hT d this]
          exact hx
        · simp at hd
      · simp at hd
    · split
      · rename_i hb
        rw [if_pos hb] at h
        exact opE_frame hT hH h
      · rename_i hb
        rw [if_neg hb] at h
        exact h
theorem aBin_u : ∀ {t : Option TI} {op : BinOp} {x y : AV} {r : AV} {u : Upd}, aBin t op x y = some (r, u) → u = .none := by
  intro t op x y r u h
  unfold aBin at h
  (repeat' (split at h)); all_goals (first | (simp at h; done) | (simp only [vI, vB, vS, pure1, Option.some.injEq, Prod.mk.injEq] at h; exact h.2.symm))
theorem aBinT_u {l : Option (List LK)} {t : Option TI} {op : BinOp} {x y r : AV} {u : Upd} (h : aBinT l t op x y = some (r, u)) : u = .none := by
  unfold aBinT at h
  split at h
  · unfold aEqA at h
    (repeat' (split at h)); all_goals (first | (simp at h; done) | (simp only [vB, pure1, Option.some.injEq, Prod.mk.injEq] at h; exact h.2.symm))
  · exact aBin_u h
theorem aUn_u : ∀ {op : UnOp} {x : AV} {r : AV} {u : Upd}, aUn op x = some (r, u) → u = .none := by
  intro op x r u h
  unfold aUn at h
  (repeat' (split at h)); all_goals (first | (simp at h; done) | (simp only [vI, vB, vS, pure1, Option.some.injEq, Prod.mk.injEq] at h; exact h.2.symm))
theorem aConv_u : ∀ {t v : Option TI} {x : AV} {r : AV} {u : Upd}, aConv t v x = some (r, u) → u = .none := by
  intro t v x r u h
  unfold aConv at h
  (repeat' (split at h)); all_goals (first | (simp at h; done) | (simp only [vI, vB, vS, pure1, Option.some.injEq, Prod.mk.injEq] at h; exact h.2.symm))
theorem aConvX_u : ∀ {hp : Hp} {e t v : Option TI} {x : AV} {r : AV} {u : Upd}, aConvX hp e t v x = some (r, u) → u = .none := by
  intro hp e t v x r u h
  unfold aConvX aConvB at h
  (repeat' (split at h)); all_goals (first | (simp at h; done) | exact aConv_u h | (simp only [vI, vB, vS, pure1, Option.some.injEq, Prod.mk.injEq] at h; exact h.2.symm))
theorem aLoad_u : ∀ {hp : Hp} {t : Option TI} {x : AV} {r : AV} {u : Upd}, aLoad hp t x = some (r, u) → u = .none := by
  intro hp t x r u h
  unfold aLoad at h
  (repeat' (split at h)); all_goals (first | (simp at h; done) | (simp only [vI, vB, vS, pure1, Option.some.injEq, Prod.mk.injEq] at h; exact h.2.symm))
theorem aBuild_u : ∀ {t : Option TI} {ps : List (Nat × AV)} {r : AV} {u : Upd}, aBuild t ps = some (r, u) → u = .none := by
  intro t ps r u h
  unfold aBuild at h
  (repeat' (split at h)); all_goals (first | (simp at h; done) | (simp only [vI, vB, vS, pure1, Option.some.injEq, Prod.mk.injEq] at h; exact h.2.symm))
theorem aFieldAddr_u : ∀ {t : Option TI} {f : Nat} {x : AV} {r : AV} {u : Upd}, aFieldAddr t f x = some (r, u) → u = .none := by
  intro t f x r u h
  unfold aFieldAddr at h
  (repeat' (split at h)); all_goals (first | (simp at h; done) | (simp only [vI, vB, vS, pure1, Option.some.injEq, Prod.mk.injEq] at h; exact h.2.symm))
theorem aField_u : ∀ {t : Option TI} {f : Nat} {x : AV} {r : AV} {u : Upd}, aField t f x = some (r, u) → u = .none := by
  intro t f x r u h
  unfold aField at h
  (repeat' (split at h)); all_goals (first | (simp at h; done) | (simp only [vI, vB, vS, pure1, Option.some.injEq, Prod.mk.injEq] at h; exact h.2.symm))
theorem aIndexAddr_u : ∀ {hp : Hp} {t : Option TI} {x y : AV} {r : AV} {u : Upd}, aIndexAddr hp t x y = some (r, u) → u = .none := by
  intro hp t x y r u h
  unfold aIndexAddr at h
  (repeat' (split at h)); all_goals (first | (simp at h; done) | (simp only [vI, vB, vS, pure1, Option.some.injEq, Prod.mk.injEq] at h; exact h.2.symm))
theorem aIndex_u : ∀ {t : Option TI} {x y : AV} {r : AV} {u : Upd}, aIndex t x y = some (r, u) → u = .none := by
  intro t x y r u h
  unfold aIndex at h
  (repeat' (split at h)); all_goals (first | (simp at h; done) | (simp only [vI, vB, vS, pure1, Option.some.injEq, Prod.mk.injEq] at h; exact h.2.symm))
theorem aSlice_u : ∀ {hp : Hp} {t : Option TI} {lo hi mx : Option Operand} {vs : List AV} {r : AV} {u : Upd}, aSlice hp t lo hi mx vs = some (r, u) → u = .none := by
  intro hp t lo hi mx vs r u h
  unfold aSlice at h
  (repeat' (split at h)); all_goals (first | (simp at h; done) | (simp only [vI, vB, vS, pure1, Option.some.injEq, Prod.mk.injEq] at h; exact h.2.symm))
set_option maxHeartbeats 4000000 in
theorem astep_upd {op : Op} {k : Nat} {vs : List AV} {hp : Hp} {r : AV} {u : Upd} (h : astep P op k vs hp = some (r, u)) :
    (u = .none) ∨ (∃ b, u = .set k b) ∨ (∃ j b, u = .set j b ∧ j ∈ idsW op vs) ∨ (∃ j b, u = .move j k b ∧ j ∈ idsW op vs) := by
  cases op
  case store t a x =>
    rcases vs with _ | ⟨x, _ | ⟨y, _ | ⟨z, l⟩⟩⟩
    · simp [astep] at h
    · simp [astep] at h
    · simp only [astep] at h
      unfold aStore at h
      repeat' (split at h)
      all_goals first | (simp at h; done) | skip
      all_goals
        simp only [Option.some.injEq, Prod.mk.injEq] at h
        obtain ⟨rfl, rfl⟩ := h
        exact .inr (.inr (.inl ⟨_, _, rfl, by simp [idsW, idsOf]⟩))
    · simp [astep] at h
  case call c =>
    obtain ⟨cal, az, ts⟩ := c
    cases cal <;> try (simp [astep] at h; done)
    rename_i b
    simp only [astep] at h
    unfold aBuiltin at h
    split at h
    · left
      unfold aLen at h
      repeat' (split at h)
      all_goals first | (simp at h; done) | (simp only [vI, pure1, Option.some.injEq, Prod.mk.injEq] at h; exact h.2.symm)
    · split at h
      · unfold aAppend at h
        repeat' (split at h)
        all_goals first | (simp at h; done) | skip
        · simp only [Option.some.injEq, Prod.mk.injEq] at h
          obtain ⟨rfl, rfl⟩ := h
          exact .inr (.inl ⟨_, rfl⟩)
        · simp only [Option.some.injEq, Prod.mk.injEq] at h
          obtain ⟨rfl, rfl⟩ := h
          exact .inr (.inr (.inr ⟨_, _, rfl, by simp [idsW, idsOf]⟩))
      · simp at h
    · left
      unfold mm at h
      repeat' (split at h)
      all_goals first | (simp at h; done) | (simp only [vI, pure1, Option.some.injEq, Prod.mk.injEq] at h; exact h.2.symm)
    · left
      unfold mm at h
      repeat' (split at h)
      all_goals first | (simp at h; done) | (simp only [vI, pure1, Option.some.injEq, Prod.mk.injEq] at h; exact h.2.symm)
    · simp at h
  case alloc t =>
    rcases vs with _ | ⟨x, l⟩
    · simp only [astep] at h
      split at h
      · simp only [Option.some.injEq, Prod.mk.injEq] at h
        obtain ⟨rfl, rfl⟩ := h
        exact .inr (.inl ⟨_, rfl⟩)
      · simp at h
    · simp [astep] at h
  case box t x =>
    rcases vs with _ | ⟨x, _ | ⟨y, l⟩⟩
    · simp [astep] at h
    · simp only [astep] at h
      split at h
      · simp only [Option.some.injEq, Prod.mk.injEq] at h
        obtain ⟨rfl, rfl⟩ := h
        exact .inr (.inl ⟨_, rfl⟩)
      · simp at h
    · simp [astep] at h
  case buildSlice t n ps =>
    simp only [astep] at h
    unfold aBuildSlice at h
    repeat' (split at h)
    all_goals first | (simp at h; done) | skip
    simp only [Option.some.injEq, Prod.mk.injEq] at h
    obtain ⟨rfl, rfl⟩ := h
    exact .inr (.inl ⟨_, rfl⟩)
  all_goals left
  all_goals rcases vs with _ | ⟨x, _ | ⟨y, _ | ⟨z, _ | ⟨q, l⟩⟩⟩⟩
  all_goals try (simp [astep] at h; done)
  all_goals try (simp only [astep] at h)
  all_goals first | exact aBinT_u h | exact aUn_u h | exact aConvX_u h | exact aLoad_u h | exact aBuild_u h | exact aFieldAddr_u h | exact aField_u h | exact aIndexAddr_u h | exact aIndex_u h | exact aSlice_u h | skip
  all_goals first | (simp only [pure1, Option.some.injEq, Prod.mk.injEq] at h; exact h.2.symm) | skip
  all_goals try ((repeat' (split at h)); all_goals (first | (simp at h; done) | (simp only [vI, vB, vS, pure1, Option.some.injEq, Prod.mk.injEq] at h; exact h.2.symm)))
  case pick =>
    unfold aPick at h
    (repeat' (split at h)); all_goals (first | (simp at h; done) | (simp only [pure1, Option.some.injEq, Prod.mk.injEq] at h; exact h.2.symm))
  case extract =>
    cases x <;> try (simp [astep] at h; done)
    simp only [astep] at h
    (repeat' (split at h)); all_goals (first | (simp at h; done) | (simp only [pure1, Option.some.injEq, Prod.mk.injEq] at h; exact h.2.symm))
  all_goals (rename Fn => fn; cases fn <;> first | (simp [astep] at h; done) | (simp only [astep, pure1, Option.some.injEq, Prod.mk.injEq] at h; exact h.2.symm))
theorem eff_dom {o : Oper} {ops : List Oper} {k : Nat} {s : St} {e : Eff} {i : Nat} (hk : k = s.next + 4 * i) (h : opG P Ev ops o k s e) : ∀ id, effH e id ≠ none → id ∈ wrOf o s i := by
  intro id hid
  have new : k ≤ id → id < k + 4 → id ∈ wrOf o s i := by
    intro h1 h2
    unfold wrOf
    refine List.mem_append.2 (.inl ?_)
    simp only [List.mem_cons, List.not_mem_nil, or_false]
    omega
  have hE : opE P Ev o.op k s e → id ∈ wrOf o s i := by
    intro h
    cases e with
    | cl r nb =>
      obtain ⟨f, az, ts, hop, g, fs, cs, args, r0, nb0, h1, h2, h3, h4, rfl, rfl⟩ := h
      simp only [effH] at hid
      split at hid
      · rename_i b hb
        obtain ⟨j, b', rfl, hl, _⟩ := look_adopt k nb0 id b hb
        have := look_lt (p := fun x => decide (x < 4)) nb0 j b' h4 hl
        simp only [decide_eq_true_eq] at this
        exact new (by omega) (by omega)
      · simp at hid
    | st r u =>
      rcases h with ⟨_, _, h⟩ | ⟨_, _, _, _, rfl⟩
      · have hw : ∀ j, j ∈ idsW o.op ((opnds o.op).map s.ev) → j = id → id ∈ wrOf o s i := by
          rintro j hj rfl
          unfold wrOf
          exact List.mem_append.2 (.inr hj)
        revert h
        generalize hvs : (opnds o.op).map s.ev = vs at hw
        intro h
        have hsets : (u = .none) ∨ (∃ b, u = .set k b) ∨ (∃ j b, u = .set j b ∧ j ∈ idsW o.op vs) ∨ (∃ j b, u = .move j k b ∧ j ∈ idsW o.op vs) := by
          exact astep_upd h
        rcases hsets with rfl | ⟨b, rfl⟩ | ⟨j, b, rfl, hj⟩ | ⟨j, b, rfl, hj⟩
        · simp [effH] at hid
        · simp only [effH] at hid
          split at hid
          · subst_vars; exact new (Nat.le_refl _) (by omega)
          · simp at hid
        · simp only [effH] at hid
          split at hid
          · exact hw j hj (Eq.symm ‹_›)
          · simp at hid
        · simp only [effH] at hid
          split at hid
          · subst_vars; exact new (Nat.le_refl _) (by omega)
          · split at hid
            · exact hw j hj (Eq.symm ‹_›)
            · simp at hid
      · simp [effH] at hid
  unfold opG at h
  split at h
  · exact hE h
  · obtain ⟨x, b, _, _, h⟩ := h
    split at h
    · exact hE h
    · subst h
      simp [effH] at hid
end
end E
end
section
namespace E
section
variable {P : Program} {Ev : World → Prop}
def unl (l : List Bool) : Nat := l.count false
theorem unl_set : ∀ (l : List Bool) (i : Nat), l[i]? = some false → unl (l.set i true) + 1 = unl l
  | [], i, h => by simp at h
  | b :: l, 0, h => by
    simp only [List.getElem?_cons_zero, Option.some.injEq] at h
    subst h
    simp [unl]
  | b :: l, i + 1, h => by
    have := unl_set l i (by simpa using h)
    simp only [List.set_cons_succ, unl, List.count_cons] at this ⊢
    omega
theorem unl_zero : ∀ (l : List Bool), unl l = 0 → ∀ i, i < l.length → l[i]? = some true
  | [], _, i, hi => by simp at hi
  | b :: l, h, 0, hi => by
    cases b with
    | true => rfl
    | false => simp [unl] at h
  | b :: l, h, i + 1, hi => by
    have : unl l = 0 := by simp only [unl, List.count_cons] at h ⊢; omega
    simpa using unl_zero l this i (by simpa using hi)
theorem anc_good {full : List Oper} {X : Nat → Bool} (hc : ∀ i o, full[i]? = some o → X i = true → ∀ j ∈ bindE o, X j = true) : ∀ (l : List Oper) (acc : List (List Nat)), (∀ j, full[acc.length + j]? = l[j]?) →
    (∀ i o, i < acc.length → full[i]? = some o → (∀ j ∈ bindE o, X j = true) → ∀ j ∈ acc.getD i [], X j = true) → ∀ i o, full[i]? = some o → (∀ j ∈ bindE o, X j = true) → ∀ j ∈ (ancGo acc l).getD i [], X j = true
  | [], acc, hl, hg, i, o, ho, hb, j, hj => by
    have : i < acc.length := by
      rcases Nat.lt_or_ge i acc.length with h | h
      · exact h
      · have := hl (i - acc.length)
        rw [show acc.length + (i - acc.length) = i by omega, ho] at this
        simp at this
    exact hg i o this ho hb j hj
  | q :: l, acc, hl, hg, i, o, ho, hb, j, hj => by
    refine anc_good hc l _ (fun j => ?_) ?_ i o ho hb j hj
    · have := hl (j + 1)
      simpa [Nat.add_assoc, Nat.add_comm 1 j] using this
    · intro i o hi ho hb j hj
      simp only [List.length_append, List.length_cons, List.length_nil] at hi
      by_cases hlt : i < acc.length
      · refine hg i o hlt ho hb j ?_
        simpa [List.getD, List.getElem?_append_left hlt] using hj
      · have hi' : i = acc.length := by omega
        subst hi'
        have h0 := hl 0
        simp only [Nat.add_zero, List.getElem?_cons_zero] at h0
        rw [h0] at ho
        simp only [Option.some.injEq] at ho
        subst ho
        simp only [List.getD, List.getElem?_append_right (Nat.le_refl _), Nat.sub_self, List.getElem?_cons_zero, Option.getD_some, List.mem_flatMap] at hj
        obtain ⟨m, hm, hj⟩ := hj
        have hXm := hb m hm
        rcases List.mem_cons.1 hj with rfl | hj
        · exact hXm
        · have hml : m < acc.length := by
            rcases Nat.lt_or_ge m acc.length with h | h
            · exact h
            · simp [List.getElem?_eq_none h] at hj
          have hfm : m < full.length := by
            have h1 : full[acc.length]? = some q := h0
            have := (List.getElem?_eq_some_iff.1 h1).1
            omega
          exact hg m full[m] hml (List.getElem?_eq_getElem hfm) (fun j hj => hc m full[m] (List.getElem?_eq_getElem hfm) hXm j hj) j hj
theorem anc_in {full : List Oper} {X : Nat → Bool} (hc : ∀ i o, full[i]? = some o → X i = true → ∀ j ∈ bindE o, X j = true) (i : Nat) (o : Oper) (ho : full[i]? = some o) (hb : ∀ j ∈ bindE o, X j = true) : ∀ j ∈ (ancGo [] full).getD i [], X j = true :=
  anc_good hc full [] (fun j => by simp) (fun i o h => by simp at h) i o ho hb
theorem disj_spec {a b : List Nat} (h : disj a b = true) : ∀ x ∈ a, x ∉ b := by
  intro x hx hb
  have := List.all_eq_true.1 h x hx
  simp [hb] at this
theorem ready_spec {ops : Array Oper} {listed : Array Bool} {i : Nat} : i ∈ Region.ready .any ops listed ↔ ∃ o, ops[i]? = some o ∧ listed.getD i true = false ∧ ∀ j ∈ bindE o, listed.getD j false = true := by
  unfold Region.ready
  simp only [List.mem_filter, List.mem_range, Bool.and_eq_true, Bool.not_eq_true']
  constructor
  · rintro ⟨hi, h1, h2⟩
    refine ⟨ops[i], Array.getElem?_eq_getElem hi, h1, fun j hj => ?_⟩
    simp only [Array.getElem?_eq_getElem hi, Option.map_some, Option.getD_some, Array.all_eq_true_iff_forall_mem] at h2
    unfold bindE at hj
    simp only [List.mem_map, List.mem_filter] at hj
    obtain ⟨e, ⟨he, hb⟩, rfl⟩ := hj
    have := h2 e (by simpa using he)
    simpa [hb] using this
  · rintro ⟨o, ho, h1, h2⟩
    have hi := (Array.getElem?_eq_some_iff.1 ho).1
    refine ⟨hi, h1, ?_⟩
    rw [ho]
    simp only [Option.map_some, Option.getD_some, Array.all_eq_true_iff_forall_mem]
    intro e he
    cases hb : Region.binds .any e with
    | false => rfl
    | true =>
      simp only [Bool.not_true, Bool.false_or]
      exact h2 e.on (by unfold bindE; simp only [List.mem_map, List.mem_filter]; exact ⟨e, ⟨by simpa using he, hb⟩, rfl⟩)
theorem InvA.drew {S : Nat → Prop} {w0 w : World} {A : Nat → Prop} {s : St} {a : Act} (h : InvA S w0 A s a w) : InvA S w0 A s a { w with drawn := w.drawn + 1 } := by
  obtain ⟨h1, h2, h3, G, η, hG, hrel, hm, h4⟩ := h
  have hUp : Up w { w with drawn := w.drawn + 1 } G G := fun b hb => ⟨hb, rfl⟩
  refine ⟨h1.drew, h2, h3, G, η, hG, fun t x hx => Rep.up hUp (fun _ _ h => h) _ _ (hrel t x hx), ⟨fun id b hb => ?_, fun id id' b b' v v' g => hm.inj id id' b b' v v' g⟩, h4⟩
  obtain ⟨v, k1, k2, k3⟩ := hm.rep id b hb
  exact ⟨v, k1, RepB.up hUp (fun _ _ h => h) (fun _ _ => rfl) k2, k3⟩
theorem okR_spec {l : List Oper} {es : List Eff} {s : St} (h : okR l.toArray (states s l es) = true) : ∀ i, i < l.length → ∃ oi si, l[i]? = some oi ∧ (states s l es)[i]? = some si ∧ (∀ j ∈ bindE oi, j < i) ∧
    ∀ j, j < i → j ∈ (ancGo [] l).getD i [] ∨ ∃ oj sj, l[j]? = some oj ∧ (states s l es)[j]? = some sj ∧ okPair l.toArray oi oj si sj i j = true := by
  intro i hi
  unfold okR at h
  simp only [Bool.and_eq_true, List.size_toArray] at h
  have h2 := List.all_eq_true.1 h.2 i (by simpa using hi)
  rw [nth_eq, nth_eq] at h2
  split at h2
  · rename_i oi si ho hs
    simp only [Bool.and_eq_true] at h2
    refine ⟨oi, si, ho, hs, fun j hj => by simpa using List.all_eq_true.1 h2.1 j hj, fun j hj => ?_⟩
    have h3 := List.all_eq_true.1 h2.2 j (by simpa using hj)
    simp only [Bool.or_eq_true] at h3
    rcases h3 with h3 | h3
    · left
      simpa using h3
    · right
      rw [nth_eq, nth_eq] at h3
      split at h3
      · exact ⟨_, _, ‹_›, ‹_›, h3⟩
      · simp at h3
  · simp at h2
def AX (s : St) (X : Nat → Bool) (n : Nat) : Nat → Prop := fun id => id < s.next ∨ ∃ i, i < n ∧ X i = true ∧ s.next + 4 * i ≤ id ∧ id < s.next + 4 * i + 4
set_option maxHeartbeats 1000000 in
theorem any_sound {S : Nat → Prop} {w0 : World} (hE : Stable Ev) (h0 : Ev w0) {l : List Oper} {es : List Eff} {s : St} {Q : Exit → Act → World → Prop} (hlen : es.length = l.length) (hch : Chain P Ev l l es s.next s) (hok : okR l.toArray (states s l es) = true)
    (hQ : ∀ a w, InvA S w0 (· < s.next + 4 * l.length) (stAll s l es) a w → Q .normal a w) : ∀ (fuel : Nat) (listed : Array Bool) (a : Act) (w : World), listed.size = l.length → unl listed.toList ≤ fuel →
    (∀ i o, l[i]? = some o → listed.getD i false = true → ∀ j ∈ bindE o, listed.getD j false = true) → InvA S w0 (AX s (fun i => listed.getD i false) l.length) (stX (fun i => listed.getD i false) 0 s l es) a w → wpAny P .any l.toArray Q fuel listed a w := by
  have spec := okR_spec hok
  -- when nothing is ready, all is done
  have done : ∀ (listed : Array Bool) (a : Act) (w : World), listed.size = l.length → Region.ready .any l.toArray listed = [] → InvA S w0 (AX s (fun i => listed.getD i false) l.length) (stX (fun i => listed.getD i false) 0 s l es) a w → Q .normal a w := by
    intro listed a w hsz hr hI
    have all : ∀ i, i < l.length → listed.getD i false = true := by
      intro i
      induction i using Nat.strongRecOn with
      | _ i ih =>
        intro hi
        obtain ⟨oi, si, ho, hs, hb, _⟩ := spec i hi
        cases hX : listed.getD i false with
        | true => rfl
        | false =>
          exfalso
          have : i ∈ Region.ready .any l.toArray listed := ready_spec.2 ⟨oi, by simpa using ho, by simpa [Array.getD, hsz, hi] using hX, fun j hj => ih j (hb j hj) (by have := hb j hj; omega)⟩
          rw [hr] at this
          simp at this
    refine hQ a w ?_
    have e : stX (fun i => listed.getD i false) 0 s l es = stAll s l es := stX_agree l es 0 s fun j hj => by simpa using all j hj
    rw [← e]
    refine hI.mono fun id hid => ?_
    rcases hid with h | ⟨i, h1, h2, h3, h4⟩ <;> omega
  intro fuel
  induction fuel with
  | zero =>
    intro listed a w hsz hun hcl hI
    have hr : Region.ready .any l.toArray listed = [] := by
      rw [List.eq_nil_iff_forall_not_mem]
      intro i hi
      obtain ⟨o, ho, h1, _⟩ := ready_spec.1 hi
      have hlt : i < l.length := by have := (Array.getElem?_eq_some_iff.1 ho).1; simpa using this
      have := unl_zero listed.toList (by omega) i (by simpa [hsz] using hlt)
      simp only [Array.getElem?_toList] at this
      rw [Array.getD_eq_getD_getElem?, this] at h1
      simp at h1
    exact ⟨hr, done listed a w hsz hr hI⟩
  | succ fuel ih =>
    intro listed a w hsz hun hcl hI
    refine ⟨fun hr => done listed a w hsz hr hI, fun i hi => ?_⟩
    obtain ⟨o, ho, h1, h2⟩ := ready_spec.1 hi
    have hlt : i < l.length := by have := (Array.getElem?_eq_some_iff.1 ho).1; simpa using this
    have ho' : l[i]? = some o := by simpa using ho
    have hXi : listed.getD i false = false := by simpa [Array.getD, hsz, hlt] using h1
    have hel : i < es.length := by omega
    have he : es[i]? = some es[i] := List.getElem?_eq_getElem hel
    have hst := states_at l es s i o es[i] ho' he
    have hG := chain_at l es s.next s i o es[i] hch ho' he
    obtain ⟨oi, si, q1, q2, q3, q4⟩ := spec i hlt
    rw [ho'] at q1
    simp only [Option.some.injEq] at q1
    subst q1
    rw [hst] at q2
    simp only [Option.some.injEq] at q2
    have hanc := anc_in (X := fun i => listed.getD i false) hcl i o ho' h2
    -- of whatever is done before its time or not yet done the i-th is apart
    have sep : ∀ j oj f, l[j]? = some oj → es[j]? = some f → j ≠ i → listed.getD j false ≠ decide (j < i) → (∀ t, oj.dst = some t → t ∉ o.looksAt l.toArray ∧ o.dst ≠ some t) ∧ (∀ id, effH f id ≠ none → id ∉ rdOf o si ∧ effH es[i] id = none) := by
      intro j oj f hj hf hji hX
      have hjl : j < l.length := (List.getElem?_eq_some_iff.1 hj).1
      have hsj := states_at l es s j oj f hj hf
      have hGj := chain_at l es s.next s j oj f hch hj hf
      have nx : ∀ m, (stX (fun j => decide (j < m)) 0 s l es).next = s.next := fun m => (stX_rest l es 0 s).2
      rcases Nat.lt_or_gt_of_ne hji with hlt' | hgt
      · have hXj : listed.getD j false = false := by
          cases hq : listed.getD j false with
          | false => rfl
          | true => rw [hq] at hX; simp [hlt'] at hX
        rcases q4 j hlt' with h | ⟨oj', sj, r1, r2, r3⟩
        · have this : listed.getD j false = true := hanc j h
          rw [hXj] at this
          simp at this
        · rw [hj] at r1
          simp only [Option.some.injEq] at r1
          subst r1
          rw [hsj] at r2
          simp only [Option.some.injEq] at r2
          unfold okPair at r3
          simp only [Bool.and_eq_true] at r3
          obtain ⟨⟨a1, a2⟩, a3⟩ := r3
          obtain ⟨b1, b2, b3⟩ := Oper.apart_spec a1
          refine ⟨fun t ht => ⟨b1 t ht, b2 t ht⟩, fun id hid => ?_⟩
          have hd := eff_dom (by rw [nx]) hGj id hid
          rw [r2] at hd
          have hn := disj_spec a2 id hd
          rw [List.mem_append, not_or] at hn
          refine ⟨hn.1, ?_⟩
          cases hq : effH es[i] id with
          | none => rfl
          | some x =>
            exfalso
            have := eff_dom (by rw [nx]) hG id (by rw [hq]; simp)
            rw [q2] at this
            exact hn.2 this
      · have hXj : listed.getD j false = true := by
          cases hq : listed.getD j false with
          | true => rfl
          | false => rw [hq] at hX; simp at hX; omega
        obtain ⟨oj', sj, p1, p2, p3, p4⟩ := spec j hjl
        rw [hj] at p1
        simp only [Option.some.injEq] at p1
        subst p1
        rw [hsj] at p2
        simp only [Option.some.injEq] at p2
        rcases p4 i hgt with h | ⟨oi', si', r1, r2, r3⟩
        · have this : listed.getD i false = true := anc_in (X := fun i => listed.getD i false) hcl j oj hj (hcl j oj hj hXj) i h
          rw [hXi] at this
          simp at this
        · rw [ho'] at r1
          simp only [Option.some.injEq] at r1
          subst r1
          rw [hst] at r2
          simp only [Option.some.injEq] at r2
          subst r2
          unfold okPair at r3
          simp only [Bool.and_eq_true] at r3
          obtain ⟨⟨a1, a2⟩, a3⟩ := r3
          obtain ⟨b1, b2, b3⟩ := Oper.apart_spec a1
          refine ⟨fun t ht => ⟨b3 t ht, fun h => b2 t h ht⟩, fun id hid => ?_⟩
          have hd := eff_dom (by rw [nx]) hGj id hid
          rw [p2] at hd
          have hn := disj_spec a3 id hd
          rw [q2] at hn
          refine ⟨hn, ?_⟩
          cases hq : effH es[i] id with
          | none => rfl
          | some x =>
            exfalso
            have h5 := eff_dom (by rw [nx]) hG id (by rw [hq]; simp)
            have := disj_spec a2 id h5
            rw [List.mem_append, not_or] at this
            exact this.2 hd
    -- so it does what it does in the text's order
    have hG' : opG P Ev l o (s.next + 4 * i) (stX (fun i => listed.getD i false) 0 s l es) es[i] := by
      refine opG_frame (s := stX (fun j => decide (j < i)) 0 s l es) (fun t ht => ?_) (fun id hid => ?_) hG
      · refine stX_slot l es 0 s s rfl rfl fun j oj hj hX hd => ?_
        simp only [Nat.zero_add] at hX
        by_cases hji : j = i
        · subst hji
          rw [hXi] at hX
          simp at hX
        · have hjl : j < es.length := by have := (List.getElem?_eq_some_iff.1 hj).1; omega
          exact ((sep j oj es[j] hj (List.getElem?_eq_getElem hjl) hji hX).1 t hd).1 ht
      · refine stX_blk l es 0 s s rfl fun j f hf hjl hX => ?_
        simp only [Nat.zero_add] at hX
        by_cases hji : j = i
        · subst hji
          rw [hXi] at hX
          simp at hX
        · cases hq : effH f id with
          | none => rfl
          | some x =>
            exfalso
            rw [q2] at hid
            exact ((sep j l[j] f (List.getElem?_eq_getElem hjl) hf hji hX).2 id (by rw [hq]; simp)).1 hid
    have hX' : ∀ j, (listed.setIfInBounds i true).getD j false = (listed.getD j false || j == i) := by
      intro j
      simp only [Array.getD_eq_getD_getElem?, Array.getElem?_setIfInBounds]
      by_cases hij : i = j
      · subst hij
        simp [hsz, hlt]
      · have : (j == i) = false := by simpa using fun e => hij e.symm
        simp [hij, this]
    refine wpOp_sound (hI.ev hE h0) hI (fun id k1 k2 hA => ?_) ho' hG' fun a' w' hI' => ?_
    · rcases hA with h | ⟨m, m1, m2, m3, m4⟩
      · omega
      · have : m = i := by omega
        subst this
        have m2 : listed.getD m false = true := m2
        rw [hXi] at m2
        simp at m2
    · refine ih _ a' w' (by simpa using hsz) ?_ (fun m om hm hXm j hj => ?_) ?_
      · have hf : listed.toList[i]? = some false := by
          have h1' := h1
          rw [Array.getD_eq_getD_getElem?] at h1'
          simp only [Array.getElem?_toList]
          cases hq : listed[i]? with
          | none => rw [hq] at h1'; simp at h1'
          | some b => rw [hq] at h1'; simp only [Option.getD_some] at h1'; rw [h1']
        have := unl_set listed.toList i hf
        rw [Array.toList_setIfInBounds]
        omega
      · rw [hX'] at hXm ⊢
        simp only [Bool.or_eq_true, beq_iff_eq] at hXm ⊢
        rcases hXm with hXm | rfl
        · exact .inl (hcl m om hm hXm j hj)
        · rw [ho'] at hm
          simp only [Option.some.injEq] at hm
          subst hm
          exact .inl (h2 j hj)
      · have hins := stX_insert (X := fun i => listed.getD i false) (m := i) l es 0 s o es[i] ho' he (by simpa using hXi) fun j oj f hij hj hf hX => by
          have hX2 : listed.getD j false = true := by simpa using hX
          have := sep j oj f hj hf (by omega) (by rw [hX2]; simp; omega)
          refine ⟨fun t ht hd => (this.1 t hd).2 ht, fun id hid => ?_⟩
          cases hq : effH f id with
          | none => rfl
          | some x =>
            exfalso
            exact hid (this.2 id (by rw [hq]; simp)).2
        have e : stX (fun j => (listed.setIfInBounds i true).getD j false) 0 s l es = stX (fun j => listed.getD j false || j == 0 + i) 0 s l es := by
          refine stX_agree l es 0 s fun j _ => ?_
          simp only [Nat.zero_add]
          exact hX' j
        rw [e]
        refine (hins.symm.inv hI').mono fun id hid => ?_
        rcases hid with (h | ⟨m, m1, m2, m3, m4⟩) | ⟨m3, m4⟩
        · exact .inl h
        · have m2 : listed.getD m false = true := m2
          exact .inr ⟨m, m1, (hX' m).trans (by rw [m2]; rfl), m3, m4⟩
        · exact .inr ⟨i, hlt, (hX' i).trans (by simp), m3, m4⟩
theorem region_any {S : Nat → Prop} {w0 w : World} (hE : Stable Ev) (h0 : Ev w0) (hf : P.follows .mixedOrders = true) {l : List Oper} {id : Nat} {s : St} {a : Act} {K : Option (List St) → St → Prop} {Q : Exit → Act → World → Prop} (h : run P Ev l l s.next (some []) s K) (hI : Inv S w0 s a w)
    (hK : ∀ lg s' a' w', K lg s' → Inv S w0 s' a' w' → Q .normal a' w') (hO : ∀ lg s', K lg s' → okL l.toArray lg) : (Code.region id l.toArray true).wp P Q a w := by
  obtain ⟨es, h1, h2, h3⟩ := run_ex l _ _ _ h
  have hok := hO _ _ h3
  simp only [Option.map_some, List.append_nil, okL, List.reverse_reverse] at hok
  refine wp_region_any hf ?_
  refine any_sound hE h0 h1 h2 hok (fun a w hI => hK _ _ a w h3 (inv_iff.2 hI)) _ _ a _ (by simp) ?_ (fun i o hi hX => ?_) ?_
  · have : unl (Array.replicate l.toArray.size false).toList = l.length := by simp [unl]
    rw [this]
    simp
  · simp [Array.getD_eq_getD_getElem?, Array.getElem?_replicate] at hX
    split at hX <;> simp at hX
  · have hX0 : ∀ j, (Array.replicate l.toArray.size false).getD j false = false := fun j => by
      simp only [Array.getD_eq_getD_getElem?, Array.getElem?_replicate]
      split <;> rfl
    have e : ∀ (l' : List Oper) (es' : List Eff) (i : Nat), stX (fun i => (Array.replicate l.toArray.size false).getD i false) i s l' es' = s := by
      intro l'
      induction l' with
      | nil => intro es' i; simp [stX]
      | cons o l' ih =>
        intro es' i
        cases es' with
        | nil => simp [stX]
        | cons e es' =>
          simp only [stX]
          rw [if_neg (by rw [hX0]; simp)]
          exact ih es' (i + 1)
    rw [e]
    exact (inv_iff.1 hI).drew.mono fun id h => .inl h
end
end E
end
section
namespace E
def aExt (i : Nat) : AV → Rs
  | .tup vs => match nth i vs with
    | some v => pure1 v
    | none => none
  | _ => none
theorem opsE {P : Program} {Ev : World → Prop} {F : Ex → St → Prop} {st : List Fr} {ops : List Oper} {d : Option (List St)} {dst : Option Tmp} {l : List Oper} {k : Nat} {s : St} (x : Operand) (i : Nat) : Go P Ev F st ops d dst l (.extract x i) k s = Gs P Ev F st ops d dst l k s (aExt i (s.ev x)) := by
  show stepK (astep P (.extract x i) k [s.ev x] s.heap) _ = _
  cases s.ev x <;> rfl
section
variable {P : Program} {Ev : World → Prop}
def toEx : Exit → Option Ex
  | .normal => some .normal
  | .exit id => some (.exit id)
  | .ret => some .ret
  | _ => none
def post (S : Nat → Prop) (w0 : World) (Q : Ex → St → Prop) : Exit → Act → World → Prop := fun e a w => ∃ x s, toEx e = some x ∧ Q x s ∧ Inv S w0 s a w
theorem AW_sound {S : Nat → Prop} {w0 : World} (hE : Stable Ev) (h0 : Ev w0) (hf : P.follows .mixedOrders = true) : ∀ (c : Code) (Q : Ex → St → Prop) (s : St) (a : Act) (w : World), AW P Ev c Q s → Inv S w0 s a w → c.wp P (post S w0 Q) a w := by
  intro c
  induction c with
  | skip => intro Q s a w h hI; exact wp_skip ⟨_, s, rfl, h, hI⟩
  | label l => intro Q s a w h hI; exact wp_label ⟨_, s, rfl, h, hI⟩
  | region id ops d =>
    intro Q s a w h hI
    have e : ops = ops.toList.toArray := by simp
    cases d with
    | false =>
      rw [e]
      exact region_text hE h0 h hI fun lg s' a' w' hk hI' => ⟨_, s', rfl, hk.2, hI'⟩
    | true =>
      rw [e]
      exact region_any hE h0 hf h hI (fun lg s' a' w' hk hI' => ⟨_, s', rfl, hk.2, hI'⟩) fun lg s' hk => by rw [← e]; exact hk.1
  | seq x y ihx ihy =>
    intro Q s a w h hI
    refine wp_seq (wp_mono (ihx _ s a w h hI) fun e a' w' hq => ?_)
    obtain ⟨ex, s', he, hQ, hI'⟩ := hq
    cases e with
    | normal =>
      simp only [toEx, Option.some.injEq] at he
      subst he
      exact ihy Q s' a' w' hQ hI'
    | exit id =>
      simp only [toEx, Option.some.injEq] at he
      subst he
      exact ⟨_, s', rfl, hQ, hI'⟩
    | ret =>
      simp only [toEx, Option.some.injEq] at he
      subst he
      exact ⟨_, s', rfl, hQ, hI'⟩
    | goto l => simp [toEx] at he
    | panic ch => simp [toEx] at he
    | outgrown => simp [toEx] at he
  | cond c x y ihx ihy =>
    intro Q s a w h hI
    have h' : brK (s.ev c) (AW P Ev x Q s) (AW P Ev y Q s) := h
    obtain ⟨_, _, _, G, η, _, hrel, _⟩ := hI
    have hr := ev_rep hrel c
    unfold brK at h'
    split at h'
    · rename_i t ht
      rw [ht] at hr
      have hc : a.eval c = .bool t := hr
      refine wp_cond hc ?_
      cases t with
      | true => exact ihx Q s a w h' ⟨‹_›, ‹_›, ‹_›, G, η, ‹_›, hrel, ‹_›⟩
      | false => exact ihy Q s a w h' ⟨‹_›, ‹_›, ‹_›, G, η, ‹_›, hrel, ‹_›⟩
    · exact h'.elim
  | block id c ih =>
    intro Q s a w h hI
    refine wp_block (wp_mono (ih _ s a w h hI) fun e a' w' hq => ?_)
    obtain ⟨ex, s', he, hQ, hI'⟩ := hq
    cases e with
    | normal =>
      simp only [toEx, Option.some.injEq] at he
      subst he
      exact ⟨_, s', rfl, hQ, hI'⟩
    | exit j =>
      simp only [toEx, Option.some.injEq] at he
      subst he
      simp only [blockK, beq_iff_eq] at hQ
      simp only [Exit.inBlock]
      by_cases hj : j = id
      · rw [if_pos hj]
        rw [if_pos hj] at hQ
        exact ⟨_, s', rfl, hQ, hI'⟩
      · rw [if_neg hj]
        rw [if_neg hj] at hQ
        exact ⟨_, s', rfl, hQ, hI'⟩
    | ret =>
      simp only [toEx, Option.some.injEq] at he
      subst he
      exact ⟨_, s', rfl, hQ, hI'⟩
    | goto l => simp [toEx] at he
    | panic ch => simp [toEx] at he
    | outgrown => simp [toEx] at he
  | exit id => intro Q s a w h hI; exact wp_exit ⟨_, s, rfl, h, hI⟩
  | ret => intro Q s a w h hI; exact wp_ret ⟨_, s, rfl, h, hI⟩
  | scope c ih =>
    intro Q s a w h hI
    refine wp_scope_straight (wp_mono (ih Q s a w h hI) fun e a' w' hq => ?_)
    obtain ⟨ex, s', he, hQ, hI'⟩ := hq
    cases e with
    | goto l => simp [toEx] at he
    | normal => exact ⟨ex, s', he, hQ, hI'⟩
    | exit id => exact ⟨ex, s', he, hQ, hI'⟩
    | ret => exact ⟨ex, s', he, hQ, hI'⟩
    | panic ch => simp [toEx] at he
    | outgrown => simp [toEx] at he
  | loop c ih =>
    intro Q s a w h hI
    obtain ⟨ι, T, μ, i, hle, hr⟩ := h
    refine wp_loop_ghost (fun n a w => ∃ i, μ i = n ∧ Inv S w0 (T i) a w) (μ i) ⟨i, rfl, hle _ _ _ _ hI⟩ ?_
    rintro n a w ⟨i, rfl, hI⟩
    refine wp_mono (ih _ (T i) a w (hr i) hI) fun e a' w' hq => ?_
    obtain ⟨ex, s', he, hQ, hI'⟩ := hq
    cases e with
    | normal =>
      simp only [toEx, Option.some.injEq] at he
      subst he
      obtain ⟨j, hj, hlt⟩ := hQ
      exact ⟨μ j, hlt, j, rfl, hj _ _ _ _ hI'⟩
    | exit id =>
      simp only [toEx, Option.some.injEq] at he
      subst he
      exact ⟨_, s', rfl, hQ, hI'⟩
    | ret =>
      simp only [toEx, Option.some.injEq] at he
      subst he
      exact ⟨_, s', rfl, hQ, hI'⟩
    | goto l => simp [toEx] at he
    | panic ch => simp [toEx] at he
    | outgrown => simp [toEx] at he
  | rangeFunc f ps a b => intro Q s a w h hI; exact h.elim
  | goto l => intro Q s a w h hI; exact h.elim
  | refuse why => intro Q s a w h hI; exact h.elim
def swap (ids : List (Nat × Nat)) : List (Nat × Nat) := ids.map fun x => (x.2, x.1)
def okIds (ids : List (Nat × Nat)) (nx : Nat) : Bool := ids.all fun x => look x.2 (swap ids) == some x.1 && look x.1 ids == some x.2 && decide (x.2 < nx)
def pickB (hp : Hp) (f : Nat → Option Nat) : List (Nat × Nat) → Hp
  | [] => []
  | (o, j) :: l => match look o hp with
    | some b => (j, renB f b) :: pickB hp f l
    | none => pickB hp f l
def pickT (s : St) (f : Nat → Option Nat) : List Nat → List (Nat × AV)
  | [] => []
  | t :: l => (t, ren f (s.ev (.tmp t))) :: pickT s f l
def idF (ids : List (Nat × Nat)) : Nat → Option Nat := fun o => look o ids
def pick (ts : List Nat) (ids : List (Nat × Nat)) (nx : Nat) (s : St) : St := ⟨s.n, pickT s (idF ids) ts, pickB s.heap (idF ids) ids, nx⟩
theorem look_mem : ∀ {α : Type} (l : List (Nat × α)) (k : Nat) (a : α), look k l = some a → (k, a) ∈ l
  | _, [], k, a, h => by simp [look] at h
  | _, (j, b) :: l, k, a, h => by
    simp only [look] at h
    split at h
    · rename_i e
      simp only [beq_iff_eq] at e
      simp only [Option.some.injEq] at h
      subst e h
      simp
    · exact List.mem_cons_of_mem _ (look_mem l k a h)
theorem look_pickT {s : St} {f : Nat → Option Nat} : ∀ (ts : List Nat) (t : Nat) (x : AV), look t (pickT s f ts) = some x → x = ren f (s.ev (.tmp t))
  | [], t, x, h => by simp [pickT, look] at h
  | q :: ts, t, x, h => by
    simp only [pickT, look] at h
    split at h
    · rename_i e
      simp only [beq_iff_eq] at e
      simp only [Option.some.injEq] at h
      rw [← e]
      exact h.symm
    · exact look_pickT ts t x h
theorem look_pickB {hp : Hp} {f : Nat → Option Nat} : ∀ (ids : List (Nat × Nat)) (j : Nat) (b : Blk), look j (pickB hp f ids) = some b → ∃ o c, (o, j) ∈ ids ∧ look o hp = some c ∧ b = renB f c
  | [], j, b, h => by simp [pickB, look] at h
  | (o, q) :: ids, j, b, h => by
    simp only [pickB] at h
    split at h
    · rename_i c hc
      simp only [look] at h
      split at h
      · rename_i e
        simp only [beq_iff_eq] at e
        simp only [Option.some.injEq] at h
        subst e
        exact ⟨o, c, by simp, hc, h.symm⟩
      · obtain ⟨o', c', h1, h2⟩ := look_pickB ids j b h
        exact ⟨o', c', List.mem_cons_of_mem _ h1, h2⟩
    · obtain ⟨o', c', h1, h2⟩ := look_pickB ids j b h
      exact ⟨o', c', List.mem_cons_of_mem _ h1, h2⟩
def reN (ids : List (Nat × Nat)) (η : Nat → Option Value) : Nat → Option Value := fun j => match look j (swap ids) with
  | some o => η o
  | none => none
theorem okIds_spec {ids : List (Nat × Nat)} {nx : Nat} (h : okIds ids nx = true) : ∀ o j, (o, j) ∈ ids → look j (swap ids) = some o ∧ look o ids = some j ∧ j < nx := by
  intro o j hm
  have := List.all_eq_true.1 h _ hm
  simp only [Bool.and_eq_true, beq_iff_eq, decide_eq_true_eq] at this
  exact ⟨this.1.1, this.1.2, this.2⟩
theorem reN_f {ids : List (Nat × Nat)} {nx : Nat} {η : Nat → Option Value} (h : okIds ids nx = true) : ∀ i j, idF ids i = some j → ∀ v, η i = some v → reN ids η j = some v := by
  intro i j hi v hv
  have := (okIds_spec h i j (look_mem ids i j hi)).1
  unfold reN
  rw [this]
  exact hv
theorem Le.pick {s s' : St} (ts : List Nat) (ids : List (Nat × Nat)) (nx : Nat) (hok : okIds ids nx = true) (h : pick ts ids nx s = s') : Le s s' := by
  subst h
  rintro S w0 a w ⟨h1, h2, h3, G, η, hG, hrel, hm, h4⟩
  have hspec := okIds_spec hok
  refine ⟨h1, h2, h3, G, reN ids η, hG, fun t x hx => ?_, ⟨fun j b hb => ?_, fun j j' b b' v v' g hb hb' hv hv' hg hg' => ?_⟩, fun id hid => ?_⟩
  · rw [look_pickT ts t x hx]
    exact ren_rep (reN_f hok) _ _ (ev_rep hrel (.tmp t))
  · obtain ⟨o, c, k1, k2, rfl⟩ := look_pickB ids j b hb
    obtain ⟨v, q1, q2, q3⟩ := hm.rep o c k2
    refine ⟨v, ?_, renB_rep (reN_f hok) q2, q3⟩
    unfold reN
    rw [(hspec o j k1).1]
    exact q1
  · obtain ⟨o, c, k1, k2, rfl⟩ := look_pickB ids j b hb
    obtain ⟨o', c', k1', k2', rfl⟩ := look_pickB ids j' b' hb'
    unfold reN at hv hv'
    rw [(hspec o j k1).1] at hv
    rw [(hspec o' j' k1').1] at hv'
    have := hm.inj o o' c c' v v' g k2 k2' hv hv' hg hg'
    subst this
    have e1 := (hspec o j k1).2.1
    have e2 := (hspec o j' k1').2.1
    rw [e1] at e2
    simpa using e2
  · unfold reN
    cases hl : look id (swap ids) with
    | none => rfl
    | some o =>
      exfalso
      have := look_mem _ _ _ hl
      unfold swap at this
      simp only [List.mem_map, Prod.mk.injEq] at this
      obtain ⟨x, hx, rfl, rfl⟩ := this
      have := (hspec x.1 x.2 hx).2.2
      have hid : nx ≤ x.2 := hid
      omega
theorem Le.trans {a b c : St} (h : Le a b) (h' : Le b c) : Le a c := fun S w0 x w hI => h' S w0 x w (h S w0 x w hI)
theorem Le.nil {n : Nat} {tm : List (Nat × AV)} {hp : Hp} {k : Nat} (t e es : Nat) (hes : 0 < es) (h : look t tm = some .nil) : Le ⟨n, tm, hp, k⟩ ⟨n, (t, .own k) :: tm, hset k (.row e es []) hp, k + 1⟩ := by
  rintro S w0 a w ⟨h1, h2, h3, G, η, hG, hrel, hm, h4⟩
  have hk : η k = none := h4 k (Nat.le_refl _)
  have hlt : ∀ b, G b → b < w.heap.size := fun b hb => (hG b hb).2
  refine ⟨h1, h2, h3, G, put1 η k (.slice none 0 0), hG, fun q x hx => ?_, ?_, fun id hid => ?_⟩
  · simp only [look] at hx
    split at hx
    · rename_i e
      simp only [beq_iff_eq] at e
      subst e
      simp only [Option.some.injEq] at hx
      subst hx
      have hr : a.tmps.getD t undef = .slice none 0 0 := hrel t _ h
      exact ⟨by rw [hr]; exact put1_same, ⟨none, 0, 0, hr⟩⟩
    · exact Rep.up (fun b hb => ⟨hb, rfl⟩) (put1_ge hk) _ _ (hrel q x hx)
  · exact hm.new hlt h1.size hk (fun _ _ => rfl) (fun g hg => by simp [hb] at hg) ⟨[], World.ownsRow_nil w 0 e es, trivial, by simp, hes⟩
  · unfold put1
    have hid : k + 1 ≤ id := hid
    rw [if_neg (by omega)]
    exact h4 id (by show k ≤ id; omega)
mutual
def fin (hp : Hp) (ids : List (Nat × Nat)) : AV → AV
  | .nil => .lst []
  | .own id => match look id ids with
    | some j => .own j
    | none => match look id hp with
      | some (.row _ _ rows) => .lst rows
      | _ => .top
  | .ref _ _ | .rel _ _ _ _ => .top
  | .agg cs => .agg (finL hp ids cs)
  | .tup cs => .tup (finL hp ids cs)
  | .fn f a b => .fn f (finL hp ids a) (finL hp ids b)
  | a => a
def finL (hp : Hp) (ids : List (Nat × Nat)) : List AV → List AV
  | [] => []
  | a :: az => fin hp ids a :: finL hp ids az
end
def nbOf (hp : Hp) : List (Nat × Nat) → Hp
  | [] => []
  | (o, j) :: l => match look o hp with
    | some (.row e es rows) => (j, .row e es rows) :: nbOf hp l
    | _ => nbOf hp l
theorem look_nbOf {hp : Hp} : ∀ (ids : List (Nat × Nat)) (j : Nat) (b : Blk), look j (nbOf hp ids) = some b → ∃ o e es rows, (o, j) ∈ ids ∧ look o hp = some b ∧ b = .row e es rows
  | [], j, b, h => by simp [nbOf, look] at h
  | (o, q) :: ids, j, b, h => by
    have rest : look j (nbOf hp ids) = some b → ∃ o' e es rows, (o', j) ∈ (o, q) :: ids ∧ look o' hp = some b ∧ b = .row e es rows := fun h => by
      obtain ⟨o', e, es, rows, h1, h2⟩ := look_nbOf ids j b h
      exact ⟨o', e, es, rows, List.mem_cons_of_mem _ h1, h2⟩
    simp only [nbOf] at h
    split at h
    · rename_i e es rows hc
      simp only [look] at h
      split at h
      · rename_i e'
        simp only [beq_iff_eq] at e'
        simp only [Option.some.injEq] at h
        subst e' h
        exact ⟨o, e, es, rows, by simp, hc, rfl⟩
      · exact rest h
    · exact rest h
mutual
theorem fin_rep {w : World} {B : Nat} {G G' : Nat → Prop} {η : Nat → Option Value} {hp : Hp} {ids : List (Nat × Nat)} {nx : Nat} (hok : okIds ids nx = true) (hm : Mem w B G η hp) (hG : ∀ b, G b → G' b) (ho : ∀ id b v g, look id hp = some b → look id ids = none → η id = some v → hb v = some g → G' g) :
    ∀ (a : AV) (v : Value), Rep w G η a v → Rep w G' (reN ids η) (fin hp ids a) v
  | .val _, _, h => h
  | .nil, v, h => by
    obtain rfl : v = .slice none 0 0 := h
    exact ⟨none, 0, 0, 0, rfl, rfl, Nat.le_refl _, by omega, by simp, .inl rfl⟩
  | .lst rows, v, h => by
    obtain ⟨a, n, c, es, h1, h2, h3, h4, h5, h6⟩ := h
    refine ⟨a, n, c, es, h1, h2, h3, h4, h5, ?_⟩
    rcases h6 with h6 | ⟨b, o, h6, h7, h8⟩
    · exact .inl h6
    · exact .inr ⟨b, o, h6, hG b h7, RepRows.up (fun b hb => ⟨hG b hb, rfl⟩) rows b o h7 h8⟩
  | .elm row off, v, h => by
    obtain ⟨b, o, h1, h2, h3⟩ := h
    exact ⟨b, o, h1, hG b h2, RepRow.up (fun b hb => ⟨hG b hb, rfl⟩) row b o h2 h3⟩
  | .ref _ _, _, _ => trivial
  | .rel _ _ _ _, _, _ => trivial
  | .own id, v, h => by
    unfold fin
    split
    · rename_i j hj
      exact ⟨reN_f hok id j hj v h.1, h.2⟩
    · rename_i hn
      split
      · rename_i e es rows hl
        obtain ⟨h1, a, n, c, rfl⟩ := h
        obtain ⟨hd, h3, h4, h5⟩ := hm.rep id _ hl
        rw [h1] at h3
        simp only [Option.some.injEq] at h3
        subst h3
        obtain ⟨xs, j1, j2, j3, j4⟩ := h4
        rcases j1.2 with ⟨hh, h0⟩ | ⟨g, cap, cur, hh, b0, b1, b2, b3, b4, b5⟩
        · simp only [Value.slice.injEq] at hh
          obtain ⟨rfl, rfl, rfl⟩ := hh
          exact ⟨none, 0, 0, es, rfl, h0, Nat.le_refl _, by omega, j3, .inl (List.eq_nil_of_length_eq_zero h0)⟩
        · simp only [Value.slice.injEq] at hh
          obtain ⟨rfl, rfl, rfl⟩ := hh
          refine ⟨_, _, _, es, rfl, rfl, b2, by unfold maxLen at b3; omega, j3, .inr ⟨g, 0, rfl, ho id _ _ g hl hn h1 rfl, ?_⟩⟩
          refine rowss_of_list (RepC.up (fun b hb => ⟨hG b hb, rfl⟩) (fun _ _ h => h) _ _ j2) fun j u hu => ?_
          have := j1.cells rfl j u hu
          rwa [addr_add] at this
      · trivial
  | .agg cs, v, h => by
    obtain ⟨vs, rfl, h2⟩ := h
    exact ⟨vs, rfl, finC_rep hok hm hG ho cs vs h2⟩
  | .tup cs, v, h => by
    obtain ⟨vs, rfl, h2⟩ := h
    exact ⟨vs, rfl, finL_rep hok hm hG ho cs vs h2⟩
  | .fn f fs cs, v, h => by
    obtain ⟨v1, v2, rfl, h2, h3⟩ := h
    exact ⟨v1, v2, rfl, finL_rep hok hm hG ho fs v1 h2, finL_rep hok hm hG ho cs v2 h3⟩
  | .top, _, _ => trivial
theorem finL_rep {w : World} {B : Nat} {G G' : Nat → Prop} {η : Nat → Option Value} {hp : Hp} {ids : List (Nat × Nat)} {nx : Nat} (hok : okIds ids nx = true) (hm : Mem w B G η hp) (hG : ∀ b, G b → G' b) (ho : ∀ id b v g, look id hp = some b → look id ids = none → η id = some v → hb v = some g → G' g) :
    ∀ (az : List AV) (vs : List Value), RepL w G η az vs → RepL w G' (reN ids η) (finL hp ids az) vs
  | [], [], _ => trivial
  | [], _ :: _, h => h.elim
  | _ :: _, [], h => h.elim
  | a :: az, v :: vs, h => ⟨fin_rep hok hm hG ho a v h.1, finL_rep hok hm hG ho az vs h.2⟩
theorem finC_rep {w : World} {B : Nat} {G G' : Nat → Prop} {η : Nat → Option Value} {hp : Hp} {ids : List (Nat × Nat)} {nx : Nat} (hok : okIds ids nx = true) (hm : Mem w B G η hp) (hG : ∀ b, G b → G' b) (ho : ∀ id b v g, look id hp = some b → look id ids = none → η id = some v → hb v = some g → G' g) :
    ∀ (az : List AV) (vs : List Value), RepC w G η az vs → RepC w G' (reN ids η) (finL hp ids az) vs
  | [], [], _ => trivial
  | [], _ :: _, h => h.elim
  | _ :: _, [], h => h.elim
  | a :: az, v :: vs, h => ⟨⟨h.1.1, fin_rep hok hm hG ho a v h.1.2⟩, finC_rep hok hm hG ho az vs h.2⟩
end
def resV (P : Program) (s : St) : ResultVar → Option AV
  | .tmp t => some (s.ev (.tmp t))
  | .cell a t => match aLoad s.heap (ti P t) (s.ev (.tmp a)) with
    | some (v, _) => some v
    | none => none
def resL (P : Program) (s : St) : List ResultVar → Option (List AV)
  | [] => some []
  | r :: rs => match resV P s r, resL P s rs with
    | some v, some vs => some (v :: vs)
    | _, _ => none
def out : List AV → AV
  | [a] => a
  | az => .tup az
def Ret (P : Program) (rs : List ResultVar) (r : AV) (nb : Hp) (s : St) : Prop := ∃ ids vs, okIds ids 4 = true ∧ resL P s rs = some vs ∧ fin s.heap ids (out vs) = r ∧ nbOf s.heap ids = nb
def num0 : Nat → List AV → List (Nat × AV)
  | _, [] => []
  | k, a :: az => (k, a) :: num0 (k + 1) az
def entry (args : List AV) (n : Nat) : St := ⟨n, num0 0 args, [], 0⟩
theorem look_num0 {w : World} {G : Nat → Prop} {η : Nat → Option Value} : ∀ (args : List AV) (vs : List Value) (k t : Nat) (x : AV), RepL w G η args vs → look t (num0 k args) = some x → k ≤ t ∧ ∃ v, vs[t - k]? = some v ∧ Rep w G η x v
  | [], _, k, t, x, _, h => by simp [num0, look] at h
  | a :: args, [], k, t, x, hr, h => hr.elim
  | a :: args, v :: vs, k, t, x, hr, h => by
    simp only [num0, look] at h
    split at h
    · rename_i e
      simp only [beq_iff_eq] at e
      simp only [Option.some.injEq] at h
      subst e h
      exact ⟨Nat.le_refl _, v, by simp, hr.1⟩
    · rename_i e
      obtain ⟨h1, u, h2, h3⟩ := look_num0 args vs (k + 1) t x hr.2 h
      refine ⟨by omega, u, ?_, h3⟩
      rw [show t - k = (t - (k + 1)) + 1 by omega, List.getElem?_cons_succ]
      exact h2
def resF (tmps : Array Value) : ResultVar → Sem Value
  | .tmp t => pure (tmps.getD t undef)
  | .cell b t => do loadVar t (← asAddr (tmps.getD b undef))
theorem results_eq (fn : Func) (tmps : Array Value) : results fn tmps = (do let vs ← fn.results.mapM (resF tmps); pure (if h : vs.size = 1 then vs[0] else .tuple vs)) := rfl
theorem res_run {S : Nat → Prop} {w0 w : World} {s : St} {a : Act} {G : Nat → Prop} {η : Nat → Option Value} {B : Nat} (hrel : ∀ t x, look t s.tmps = some x → Rep w G η x (a.tmps.getD t undef)) (hm : Mem w B G η s.heap) : ∀ (rs : List ResultVar) (vs : List AV), resL P s rs = some vs →
    ∃ us : List Value, (rs.mapM (resF a.tmps)).run P w = .ok us w ∧ RepL w G η vs us
  | [], vs, h => by
    simp only [resL, Option.some.injEq] at h
    subst h
    exact ⟨[], by simp, trivial⟩
  | r :: rs, vs, h => by
    simp only [resL] at h
    split at h
    · rename_i v vs' hv hvs
      simp only [Option.some.injEq] at h
      subst h
      obtain ⟨us, k1, k2⟩ := res_run (S := S) (w0 := w0) hrel hm rs vs' hvs
      cases r with
      | tmp t =>
        simp only [resV, Option.some.injEq] at hv
        subst hv
        refine ⟨a.tmps.getD t undef :: us, ?_, ev_rep hrel (.tmp t), k2⟩
        rw [List.mapM_cons]
        simp only [resF, Sem.run_bind, Sem.run_pure, Result.andThen_ok, k1]
      | cell b t =>
        simp only [resV] at hv
        split at hv
        · rename_i v' u hl
          simp only [Option.some.injEq] at hv
          subst hv
          obtain ⟨_, x, hx, hr⟩ := sound_load hl (ev_rep hrel (.tmp b)) hm
          refine ⟨x :: us, ?_, hr, k2⟩
          have hx' : (do loadVar t (← asAddr (a.tmps.getD b undef)) : Sem Value).run P w = .ok x w := by
            have e : a.eval (.tmp b) = a.tmps.getD b undef := rfl
            rw [e] at hx
            revert hx
            generalize a.tmps.getD b undef = q
            intro hx
            simp only [Instr.loadAt, Sem.run_bind] at hx ⊢
            cases q with
            | pointer p => cases p with
              | none => simp [Instr.sureAddr] at hx
              | some ad => simpa [Instr.sureAddr, asAddr] using hx
            | _ => simp [Instr.sureAddr] at hx
          rw [List.mapM_cons]
          have hx2 : (resF a.tmps (.cell b t)).run P w = .ok x w := hx'
          simp only [Sem.run_bind, hx2, Result.andThen_ok, k1, Sem.run_pure]
        · simp at hv
    · simp at h
theorem ACalls.ofL (hE : Stable Ev) (hf : P.follows .mixedOrders = true) {f : FuncId} {fn : Func} {c : Code} {args : List AV} {r : AV} {nb : Hp} (h1 : P.funcs[f]? = some fn) (h2 : fn.body = some c) (h3 : (fn.name == "runtime.NumGoroutine") = false) (hn : args.length ≤ fn.ntmps)
    (h : ∀ F : Ex → St → Prop, (∀ s s', Le s s' → Ret P fn.results.toList r nb s' → F .ret s ∧ F .normal s) → G P Ev F [] c (entry args fn.ntmps)) : ACalls P Ev f args r nb := by
  refine ⟨⟨fn, h1, by rw [h2]; rfl, h3⟩, fun w xs G0 hw hG0 hrep => ?_⟩
  let F : Ex → St → Prop := fun e s => (e = .normal ∨ e = .ret) ∧ ∃ s', Le s s' ∧ Ret P fn.results.toList r nb s'
  have hA := h F fun s s' hl hs => ⟨⟨.inr rfl, s', hl, hs⟩, ⟨.inl rfl, s', hl, hs⟩⟩
  have hlen : xs.size = args.length := by
    have : ∀ (az : List AV) (vs : List Value), RepL w G0 no az vs → az.length = vs.length := by
      intro az
      induction az with
      | nil => intro vs h; match vs, h with | [], _ => rfl | _ :: _, h => exact h.elim
      | cons a az ih => intro vs h; match vs, h with | [], h => exact h.elim | v :: vs, h => simp [ih vs h.2]
    have := this _ _ hrep
    simpa using this.symm
  have hsz : (xs ++ Array.replicate (fn.ntmps - xs.size) undef).size = fn.ntmps := by simp; omega
  have hI : Inv G0 w (entry args fn.ntmps) { tmps := xs ++ Array.replicate (fn.ntmps - xs.size) undef, defers := [] } w := by
    refine ⟨Below.refl _ _, hsz, rfl, G0, no, fun b hb => ⟨.inl hb, hG0 b hb⟩, fun t x hx => ?_, ⟨fun id b hb => by simp [entry, look] at hb, fun id id' b b' v v' g hb => by simp [entry, look] at hb⟩, fun _ _ => rfl⟩
    obtain ⟨_, v, hv, hr⟩ := look_num0 args xs.toList 0 t x hrep hx
    simp only [Nat.sub_zero, Array.getElem?_toList] at hv
    have hlt : t < xs.size := (Array.getElem?_eq_some_iff.1 hv).1
    have e : (xs ++ Array.replicate (fn.ntmps - xs.size) undef).getD t undef = v := by
      rw [Array.getD_eq_getD_getElem?, Array.getElem?_append_left hlt, hv]
      rfl
    rw [e]
    exact hr
  refine calls_of_wp h1 h2 (wp_mono (AW_sound hE hw hf c _ _ _ _ hA hI) fun e a w' hq => ?_)
  obtain ⟨ex, s0, hex, ⟨hEx, s, hle, ids, vs, q1, q2, q3, q4⟩, hI'⟩ := hq
  obtain ⟨j1, j2, j3, G, η, hG, hrel, hm, j4⟩ := hle _ _ _ _ hI'
  obtain ⟨us, k1, k2⟩ := res_run (P := P) (S := G0) (w0 := w) hrel hm fn.results.toList vs q2
  have hres : ∃ v, (results fn a.tmps).run P w' = .ok v w' ∧ Rep w' G η (out vs) v := by
    rw [results_eq, Array.mapM_eq_mapM_toList]
    simp only [Sem.run_bind, Sem.run_map, k1, Result.andThen_ok]
    match vs, us, k2 with
    | [x], [u], k2 => exact ⟨u, by simp, k2.1⟩
    | [], [], k2 => exact ⟨.tuple #[], by simp, [], rfl, trivial⟩
    | x :: y :: vs, u :: u' :: us, k2 => exact ⟨.tuple (u :: u' :: us).toArray, by simp, _, rfl, k2⟩
    | [], _ :: _, k2 => exact k2.elim
    | _ :: _, [], k2 => exact k2.elim
    | [_], _ :: _ :: _, k2 => exact k2.2.elim
    | _ :: _ :: _, [_], k2 => exact k2.2.elim
  obtain ⟨v, hv, hvr⟩ := hres
  let G' : Nat → Prop := fun b => G b ∨ ∃ id c x, look id s.heap = some c ∧ look id ids = none ∧ η id = some x ∧ hb x = some b
  have hGG : ∀ b, G' b → (G0 b ∨ w.heap.size ≤ b) ∧ b < w'.heap.size := by
    rintro b (hb | ⟨id, c, x, p1, p2, p3, p4⟩)
    · exact hG b hb
    · obtain ⟨y, z1, z2, z3⟩ := hm.rep id c p1
      rw [p3] at z1
      simp only [Option.some.injEq] at z1
      subst z1
      exact ⟨.inr (z3 b p4).1, z2.lt p4⟩
  have hspec := okIds_spec q1
  have hfin : ∃ v, (results fn a.tmps).run P w' = .ok v w' ∧ ∃ v', Ending.returned v = .returned v' ∧ Below w.heap.size w w' ∧ ∃ G' η, (∀ b, G' b → (G0 b ∨ w.heap.size ≤ b) ∧ b < w'.heap.size) ∧ Rep w' G' η r v' ∧ Mem w' w.heap.size G' η nb := by
    refine ⟨v, hv, v, rfl, j1, G', reN ids η, hGG, ?_, ?_⟩
    · rw [← q3]
      exact fin_rep q1 hm (fun b hb => .inl hb) (fun id b x g p1 p2 p3 p4 => .inr ⟨id, b, x, p1, p2, p3, p4⟩) _ _ hvr
    · rw [← q4]
      constructor
      · intro j b hb
        obtain ⟨o, e, es, rows, z1, z2, rfl⟩ := look_nbOf ids j b hb
        obtain ⟨x, p1, p2, p3⟩ := hm.rep o _ z2
        refine ⟨x, ?_, RepB.up (fun b hb => ⟨.inl hb, rfl⟩) (fun _ _ h => h) (fun _ _ => rfl) p2, fun g hg => ⟨(p3 g hg).1, fun hG' => ?_⟩⟩
        · unfold reN
          rw [(hspec o j z1).1]
          exact p1
        · rcases hG' with h | ⟨id, c, y, r1, r2, r3, r4⟩
          · exact (p3 g hg).2 h
          · have := hm.inj id o c _ y x g r1 z2 r3 p1 r4 hg
            subst this
            rw [(hspec id j z1).2.1] at r2
            simp at r2
      · intro j j' b b' x x' g hb hb' hx hx' hg hg'
        obtain ⟨o, e, es, rows, z1, z2, rfl⟩ := look_nbOf ids j b hb
        obtain ⟨o', e', es', rows', z1', z2', rfl⟩ := look_nbOf ids j' b' hb'
        unfold reN at hx hx'
        rw [(hspec o j z1).1] at hx
        rw [(hspec o' j' z1').1] at hx'
        have := hm.inj o o' _ _ x x' g z2 z2' hx hx' hg hg'
        subst this
        have e1 := (hspec o j z1).2.1
        rw [(hspec o j' z1').2.1] at e1
        simpa using e1.symm
  obtain ⟨v, hv, v', hvv, hrest⟩ := hfin
  cases e with
  | normal => exact ⟨j3, v, hv, v', hvv, hrest⟩
  | ret => exact ⟨j3, v, hv, v', hvv, hrest⟩
  | exit id =>
    simp only [toEx, Option.some.injEq] at hex
    subst hex
    rcases hEx with h | h <;> cases h
  | goto l => simp [toEx] at hex
  | panic ch => simp [toEx] at hex
  | outgrown => simp [toEx] at hex
theorem ACalls.of (hE : Stable Ev) (hf : P.follows .mixedOrders = true) {f : FuncId} {fn : Func} {c : Code} {args : List AV} {r : AV} {nb : Hp} (h1 : P.funcs[f]? = some fn) (h2 : fn.body = some c) (h3 : (fn.name == "runtime.NumGoroutine") = false) (hn : args.length ≤ fn.ntmps)
    (h : ∀ F : Ex → St → Prop, (∀ s, Ret P fn.results.toList r nb s → F .ret s ∧ F .normal s) → G P Ev F [] c (entry args fn.ntmps)) : ACalls P Ev f args r nb :=
  ACalls.ofL hE hf h1 h2 h3 hn fun F hF => h F fun s hs => hF s s (fun _ _ _ _ h => h) hs
theorem ACalls.lst0 {f : FuncId} {r : AV} {nb : Hp} (h : ∀ a c, ACalls P Ev f [.val (.slice a 0 c)] r nb) : ACalls P Ev f [.lst []] r nb := by
  refine ⟨(h none 0).1, fun w xs G hw hG hrep => ?_⟩
  match hx : xs.toList, hrep with
  | [x], hrep =>
    obtain ⟨⟨a, n, c, es, rfl, h2, h3⟩, _⟩ := hrep
    subst h2
    exact (h a c).2 w xs G hw hG (by rw [hx]; exact ⟨rfl, trivial⟩)
  | [], hrep => exact hrep.elim
  | _ :: _ :: _, hrep => exact hrep.2.elim
end
end E
end
section
namespace E
section
variable {e es b n : Nat} {z z' : List AV} {g : Bool}
theorem nilq0 : aBin (some ⟨.slice e es b z, n, g, z'⟩) .eql .nil .nil = vB true := by simp [aBin, nilOf, vB]
theorem nilq1 {r rs} : aBin (some ⟨.slice e es b z, n, g, z'⟩) .eql (.lst (r :: rs)) .nil = vB false := by simp [aBin, nilOf, vB]
theorem nilq2 {k c} : aBin (some ⟨.slice e es b z, n, g, z'⟩) .eql (.val (.slice none k c)) .nil = vB true := by simp [aBin, nilOf, vB]
theorem nilq3 {a k c} : aBin (some ⟨.slice e es b z, n, g, z'⟩) .eql (.val (.slice (some a) k c)) .nil = vB false := by simp [aBin, nilOf, vB]
end
structure Imp (B A : Prop) : Prop where
  out : B → A
theorem Imp.refl {A : Prop} : Imp A A := ⟨fun h => h⟩
section
variable {P : Program} {Ev : World → Prop} {F : Ex → St → Prop} {st : List Fr}
theorem iCall {B ops d dst l k s f fs cs az own r nb} (h : ACalls P Ev f (fs ++ (az ++ cs)) r nb) (ho : own = false ∨ flat r = true ∧ (nb.all fun x => flatB x.2) = true) (hn : (nb.all fun x => x.1 < 4) = true)
    (hK : Imp B (Gr P Ev F st ops d l (k + 4) ((s.put dst (ren (sh k) r)).more (adopt k nb)))) : Imp B (Gc P Ev F st ops d dst l k s (.fn f fs cs :: az) own) := ⟨fun h' => Gc_call h ho hn (hK.out h')⟩
theorem iGlob {B ops d dst l k s t g r} (h : AGlob P Ev t (.pointer (some ⟨g, 0, none⟩)) r) (hK : Imp B (Gr P Ev F st ops d l (k + 4) (s.put dst r))) : Imp B (Gv P Ev F st ops d dst l k s t g) := ⟨fun h' => Gv_glob h (hK.out h')⟩
theorem iDrawn {B ops lg s} (h : okR (List.toArray ops) lg.reverse = true) (hK : Imp B (Gx P Ev F st .normal s)) : Imp B (Gd P Ev F st ops lg s) := ⟨fun h' => ⟨h, hK.out h'⟩⟩
theorem loopK {c : Code} {s : St} {ι : Type} (T : ι → St) (μ : ι → Nat) (i : ι) (h0 : Le s (T i))
    (h : ∀ i, ∀ F' : Ex → St → Prop, (∀ s j, Le s (T j) → μ j < μ i → F' .normal s) → (∀ id s, F' (.exit id) s = Gx P Ev F st (.exit id) s) → (∀ s, F' .ret s = F .ret s) → G P Ev F' [] c (T i)) : Gl P Ev F st c s :=
  ⟨ι, T, μ, i, h0, fun i => h i _ (fun s j h1 h2 => ⟨j, h1, h2⟩) (fun id s => rfl) fun s => by
    show cont P Ev F st .ret s = _
    rw [cont_ret]⟩
end
set_option maxRecDepth 10000 in
theorem W {A B : Prop} (hB : B) (h : Imp B A := by
  repeat (first
    | simp only [flow0, flow1, flow2, flow3, flow4, flow5, flow6, flow7, flow8, flow9, flow10, flow11, flow12, flow13, flow14, flow15, flow16, flow17, flow18, flow19, flow20, flow21, flow22, flow23, flow24, flow25, flow26, flow27, flow28, flow29, bint0, bint1, bint2, bint3, bint4, bint5, opsR0, opsR1, opsR2, opsR3, opsR4, opsR5, opsR6, opsR7, opsR8, opsR9, opsR10, opsR11, opsR12, opsR13, opsR14, opsR15, opsR16, opsR17, opsR18, opsR19, opsE, aExt, slots0, slots1, slots2, slots3, slots4, slots5, slots6, slots7, slots8, slots9, slots10, slots11, nums0, nums1, nums2, nums3, nums4, nums5, nums6, nums7, nums8, nums9, nums10, nums11, nums12, nums13, nums14, nums15, nums16, nums17, nums18, nums19, nums20, nums21, nums22, nums23, pure1, vI, vB, vS, Gs_some, Gs_set, Gs_move, Go_pick, aPick_t, aPick_f, ofV, ofC, soft, softL, ownsL, owns, Gx_same, Gx_other, aSlice, bnd, num, aLoad, aStore, aField, aFieldAddr, aIndexAddr, aIndex, aLen, aBuiltin, aAppend, rowsOf, aConvX, aConvB, bytesOf, elemT, aConv, aBuild, aBuildSlice, fillA, zipP, placeOf, isSA, nth, rd, wr, pack, cellsOf, cell1, oneV, data, hset, hdel, reps, chunk, ren, renL, sh, adopt, renB, mm, nat_lt0, nat_ge0, Nat.reduceBEq, Nat.reduceLT, Nat.reduceAdd, Nat.reduceMul, ↓reduceIte, Bool.false_eq_true, List.map_cons, List.map_nil, Bool.not_true, Bool.not_false, beq_true, beq_false, Bool.or_self, Bool.or_false, Bool.false_or, Int.reduceEq, Int.reduceNe, Int.reduceLT, Option.getD_some, Option.getD_none, Option.toList_some, Option.toList_none, List.cons_append, List.nil_append, List.append_nil, List.drop_succ_cons, List.drop_zero, List.all_cons, List.all_nil, Bool.and_self, Bool.and_true, Bool.true_and, List.length_cons, List.length_nil, Nat.reduceEqDiff, Int.toNat_natCast, true_and, and_true, ti_2, ti_3, ti_4, ti_5, ti_6, ti_7, ti_8, ti_9, ti_10, ti_11, ti_12, ti_13, ti_14, ti_15, ti_16, ti_17, ti_18, ti_19, ti_21, ti_22, ti_23, ti_24, ti_25, ti_26, ti_29, ti_39, ti_40, ti_47, ti_48, ti_51, ti_52, ti_53, ti_54, ti_77, ti_80, ti_84, ti_85, ti_90, ti_91, ti_92, ti_104, ti_117, ti_118, ti_122, ti_129, ti_130, ti_136, ti_140, ti_145, ti_172, ti_173, ti_174, ti_178, ti_179, ti_180, ti_182, ti_185, ti_195, ti_200, ti_205, ti_209, ti_210, ti_221, ti_222, ti_223, ti_225, ti_231, ti_232, ti_233, ti_236, ti_237, ti_239, ti_240, ti_242, ti_246, ti_247, ti_248, ti_252, ti_254, ti_255, ti_257, ti_258, ti_259, ti_260, ti_261, ti_263, ti_264, ti_266, ti_267, ti_268, ti_269, cm_23, cm_54, cm_85, cm_91, cm_179, cm_237, decide_true, decide_false, nilq0, nilq1, nilq2, nilq3, not_true_eq_false, not_false_eq_true, bne_self_eq_false, beq_self_eq_true, Nat.lt_irrefl, ge_iff_le, gt_iff_lt, and_self, Nat.zero_le, Bool.true_or, Bool.or_true, Bool.true_beq, Bool.false_beq, Nat.reduceLeDiff, Int.reduceBEq, Int.reduceBNe, Int.reduceLE, Int.reduceAdd, Int.reduceSub, Int.reduceMul, Int.reduceToNat, Nat.reduceSub, Int.ofNat_lt, Int.ofNat_le, Nat.lt_add_one, Nat.le_refl, Nat.le_add_right, Int.cast_ofNat_Int, fitsA, LK.fitA, eqA, eqA1, *]
    | (apply iCall; (with_reducible assumption); (first | exact .inl rfl | exact .inr ⟨rfl, rfl⟩ | exact .inr ⟨rfl, by simp only [List.all_cons, List.all_nil, flatB, Bool.and_true, *]⟩); rfl)
    | (apply iCall; assumption; (first | exact .inl rfl | exact .inr ⟨rfl, rfl⟩ | exact .inr ⟨rfl, by simp only [List.all_cons, List.all_nil, flatB, Bool.and_true, *]⟩); rfl)
    | (apply iGlob; assumption)
    | (apply iDrawn; kernel_rfl))
  exact Imp.refl) : A := h.out hB
set_option maxRecDepth 10000 in
theorem R {A B : Prop} (hB : B) (h : Imp B A := by
  repeat (first
    | simp only [flow0, flow1, flow2, flow3, flow4, flow5, flow6, flow7, flow8, flow9, flow10, flow11, flow12, flow13, flow14, flow15, flow16, flow17, flow18, flow19, flow20, flow21, flow22, flow23, flow24, flow25, flow26, flow27, flow28, flow29, bint0, bint1, bint2, bint3, bint4, bint5, opsR0, opsR1, opsR2, opsR3, opsR4, opsR5, opsR6, opsR7, opsR8, opsR9, opsR10, opsR11, opsR12, opsR13, opsR14, opsR15, opsR16, opsR17, opsR18, opsR19, opsE, aExt, slots0, slots1, slots2, slots3, slots4, slots5, slots6, slots7, slots8, slots9, slots10, slots11, nums0, nums1, nums2, nums3, nums4, nums5, nums6, nums7, nums8, nums9, nums10, nums11, nums12, nums13, nums14, nums15, nums16, nums17, nums18, nums19, nums20, nums21, nums22, nums23, pure1, vI, vB, vS, Gs_some, Gs_set, Gs_move, Go_pick, aPick_t, aPick_f, ofV, ofC, soft, softL, ownsL, owns, Gx_same, Gx_other, aSlice, bnd, num, aLoad, aStore, aField, aFieldAddr, aIndexAddr, aIndex, aLen, aBuiltin, aAppend, rowsOf, aConvX, aConvB, bytesOf, elemT, aConv, aBuild, aBuildSlice, fillA, zipP, placeOf, isSA, nth, rd, wr, pack, cellsOf, cell1, oneV, data, hset, hdel, reps, chunk, ren, renL, sh, adopt, renB, mm, nat_lt0, nat_ge0, Nat.reduceBEq, Nat.reduceLT, Nat.reduceAdd, Nat.reduceMul, ↓reduceIte, Bool.false_eq_true, List.map_cons, List.map_nil, Bool.not_true, Bool.not_false, beq_true, beq_false, Bool.or_self, Bool.or_false, Bool.false_or, Int.reduceEq, Int.reduceNe, Int.reduceLT, Option.getD_some, Option.getD_none, Option.toList_some, Option.toList_none, List.cons_append, List.nil_append, List.append_nil, List.drop_succ_cons, List.drop_zero, List.all_cons, List.all_nil, Bool.and_self, Bool.and_true, Bool.true_and, List.length_cons, List.length_nil, Nat.reduceEqDiff, Int.toNat_natCast, true_and, and_true, ti_2, ti_3, ti_4, ti_5, ti_6, ti_7, ti_8, ti_9, ti_10, ti_11, ti_12, ti_13, ti_14, ti_15, ti_16, ti_17, ti_18, ti_19, ti_21, ti_22, ti_23, ti_24, ti_25, ti_26, ti_29, ti_39, ti_40, ti_47, ti_48, ti_51, ti_52, ti_53, ti_54, ti_77, ti_80, ti_84, ti_85, ti_90, ti_91, ti_92, ti_104, ti_117, ti_118, ti_122, ti_129, ti_130, ti_136, ti_140, ti_145, ti_172, ti_173, ti_174, ti_178, ti_179, ti_180, ti_182, ti_185, ti_195, ti_200, ti_205, ti_209, ti_210, ti_221, ti_222, ti_223, ti_225, ti_231, ti_232, ti_233, ti_236, ti_237, ti_239, ti_240, ti_242, ti_246, ti_247, ti_248, ti_252, ti_254, ti_255, ti_257, ti_258, ti_259, ti_260, ti_261, ti_263, ti_264, ti_266, ti_267, ti_268, ti_269, cm_23, cm_54, cm_85, cm_91, cm_179, cm_237, decide_true, decide_false, nilq0, nilq1, nilq2, nilq3, not_true_eq_false, not_false_eq_true, bne_self_eq_false, beq_self_eq_true, Nat.lt_irrefl, ge_iff_le, gt_iff_lt, and_self, Nat.zero_le, Bool.true_or, Bool.or_true, Bool.true_beq, Bool.false_beq, Nat.reduceLeDiff, Int.reduceBEq, Int.reduceBNe, Int.reduceLE, Int.reduceAdd, Int.reduceSub, Int.reduceMul, Int.reduceToNat, Nat.reduceSub, Nat.lt_add_one, Nat.le_refl, Nat.le_add_right, fitsA, LK.fitA, eqA, eqA1, *]
    | (apply iCall; (with_reducible assumption); (first | exact .inl rfl | exact .inr ⟨rfl, rfl⟩ | exact .inr ⟨rfl, by simp only [List.all_cons, List.all_nil, flatB, Bool.and_true, *]⟩); rfl)
    | (apply iCall; assumption; (first | exact .inl rfl | exact .inr ⟨rfl, rfl⟩ | exact .inr ⟨rfl, by simp only [List.all_cons, List.all_nil, flatB, Bool.and_true, *]⟩); rfl)
    | (apply iGlob; assumption)
    | (apply iDrawn; kernel_rfl))
  exact Imp.refl) : A := h.out hB
end E
end
section
namespace E
def pcs (ps : List Int) : List (List AV) := ps.map fun p => [.val (.int .i8 p)]
theorem pcs_len (ps : List Int) : (pcs ps).length = ps.length := by simp [pcs]
theorem pcs_ok (ps : List Int) : (pcs ps).all (fun r => r.length == 1 && r.all data) = true := by
  simp [pcs, data, oneV]
section
variable {e es b : Nat} {z : List AV} {n : Nat} {g : Bool} {z' : List AV}
end
set_option maxRecDepth 10000 in
theorem clone_a {Ev : World → Prop} (hE : Stable Ev) (hf : Tryz.prog.follows .mixedOrders = true) (ps : List Int) (hn : ps.length ≤ 1000) : ACalls Tryz.prog Ev 89 [.lst (pcs ps)] (.own 0) [(0, .row 48 1 (pcs ps))] := by
  cases ps with
  | nil =>
    refine ACalls.lst0 fun a c => ?_
    cases a with
    | none =>
      refine ACalls.ofL hE hf Tryz.func89 rfl (by simp [Tryz.f89]) (Nat.le_of_ble_eq_true rfl) fun F hF => ?_
      simp only [entry, num0, Tryz.ntmps89]
      refine R ?_
      exact (hF _ _ (Le.nil 2 48 1 (by omega) rfl) ⟨[(16, 0)], [.own 16], rfl, rfl, rfl, rfl⟩).1
    | some a =>
      refine ACalls.ofL hE hf Tryz.func89 rfl (by simp [Tryz.f89]) (Nat.le_of_ble_eq_true rfl) fun F hF => ?_
      simp only [entry, num0, Tryz.ntmps89]
      refine R ?_
      exact (hF _ _ (fun _ _ _ _ h => h) ⟨[(20, 0)], [.own 20], rfl, rfl, rfl, rfl⟩).1
  | cons p ps =>
    have hq : ∀ {e es b : Nat} {z : List AV} {n : Nat} {g : Bool} {z' : List AV}, aBin (some ⟨.slice e es b z, n, g, z'⟩) .eql (.lst (pcs (p :: ps))) .nil = vB false := nilq1
    have hl : 0 + (pcs (p :: ps)).length ≤ maxR := by rw [pcs_len]; unfold maxR; omega
    have hok := pcs_ok (p :: ps)
    generalize pcs (p :: ps) = rows at *
    refine ACalls.of hE hf Tryz.func89 rfl (by simp [Tryz.f89]) (Nat.le_of_ble_eq_true rfl) fun F hF => ?_
    simp only [entry, num0, Tryz.ntmps89]
    refine R ?_
    exact (hF _ ⟨[(20, 0)], [.own 20], rfl, rfl, rfl, rfl⟩).1
def posA (f r : Int) (x : AV) (b : Bool) (k e h n : Int) : AV := .agg [.val (.int .i64 f), .val (.int .i64 r), x, .val (.bool b), .val (.int .u8 k), .val (.int .i64 e), .val (.int .i64 h), .val (.int .i64 n)]
def bdA (f r : Int) (x : AV) : AV := .agg [.val (.int .i64 f), .val (.int .i64 r), x]
variable {f r k e h n : Int} {b : Bool} {ps : List Int} {Ev : World → Prop}
theorem len0 {ps : List Int} (hn : ps.length ≤ 1000) : (pcs ps).length ≤ maxR := by rw [pcs_len]; unfold maxR; omega
set_option maxRecDepth 10000 in
theorem small_a (hE : Stable Ev) (hf : Tryz.prog.follows .mixedOrders = true) : ACalls Tryz.prog Ev 16 [posA f r (.lst (pcs ps)) b k e h n] (.val (.bool (decide ((ps.length : Int) ≤ 70)))) [] := by
  simp only [posA]
  have hlen := pcs_len ps
  generalize pcs ps = rows at *
  refine ACalls.of hE hf Tryz.func16 rfl (by simp [Tryz.f16]) (Nat.le_of_ble_eq_true rfl) fun F hF => ?_
  simp only [entry, num0, Tryz.ntmps16]
  refine R ?_
  exact (hF _ ⟨[], _, rfl, rfl, rfl, rfl⟩).1
set_option maxRecDepth 10000 in
theorem rcopy6_a (hE : Stable Ev) (hf : Tryz.prog.follows .mixedOrders = true) (hn : ps.length ≤ 1000) : ACalls Tryz.prog Ev 25 [posA f r (.lst (pcs ps)) b k e h n] (posA f r (.own 0) b k e h n) [(0, .row 48 1 (pcs ps))] := by
  simp only [posA, bdA]
  have hl := len0 hn
  have hok := pcs_ok ps
  generalize pcs ps = rows at *
  refine ACalls.of hE hf Tryz.func25 rfl (by simp [Tryz.f25]) (Nat.le_of_ble_eq_true rfl) fun F hF => ?_
  simp only [entry, num0, Tryz.ntmps25]
  refine R ?_
  exact (hF _ ⟨[(16, 0)], _, rfl, rfl, rfl, rfl⟩).1
set_option maxRecDepth 10000 in
theorem rcopy3_a (hE : Stable Ev) (hf : Tryz.prog.follows .mixedOrders = true) (hn : ps.length ≤ 1000) : ACalls Tryz.prog Ev 26 [bdA f r (.lst (pcs ps))] (bdA f r (.own 0)) [(0, .row 48 1 (pcs ps))] := by
  simp only [posA, bdA]
  have hl := len0 hn
  have hok := pcs_ok ps
  generalize pcs ps = rows at *
  refine ACalls.of hE hf Tryz.func26 rfl (by simp [Tryz.f26]) (Nat.le_of_ble_eq_true rfl) fun F hF => ?_
  simp only [entry, num0, Tryz.ntmps26]
  refine R ?_
  exact (hF _ ⟨[(24, 0)], _, rfl, rfl, rfl, rfl⟩).1
set_option maxRecDepth 10000 in
theorem rof6_a (hE : Stable Ev) (hf : Tryz.prog.follows .mixedOrders = true) : ACalls Tryz.prog Ev 30 [posA f r (.lst (pcs ps)) b k e h n] (bdA f r (.lst (pcs ps))) [] := by
  simp only [posA, bdA]
  generalize pcs ps = rows at *
  refine ACalls.of hE hf Tryz.func30 rfl (by simp [Tryz.f30]) (Nat.le_of_ble_eq_true rfl) fun F hF => ?_
  simp only [entry, num0, Tryz.ntmps30]
  refine R ?_
  exact (hF _ ⟨[], _, rfl, rfl, rfl, rfl⟩).1
set_option maxRecDepth 10000 in
theorem rbegin6_a (hE : Stable Ev) (hf : Tryz.prog.follows .mixedOrders = true) (hn : ps.length ≤ 1000) : ACalls Tryz.prog Ev 31 [bdA f r (.lst (pcs ps)), .val (.bool b)] (posA f r (.own 0) b 0 (-1) 0 1) [(0, .row 48 1 (pcs ps))] := by
  simp only [posA, bdA]
  have hl := len0 hn
  have hok := pcs_ok ps
  generalize pcs ps = rows at *
  refine ACalls.of hE hf Tryz.func31 rfl (by simp [Tryz.f31]) (Nat.le_of_ble_eq_true rfl) fun F hF => ?_
  simp only [entry, num0, Tryz.ntmps31]
  refine R ?_
  exact (hF _ ⟨[(24, 0)], _, rfl, rfl, rfl, rfl⟩).1
set_option maxRecDepth 10000 in
theorem pboard_a (hE : Stable Ev) (hf : Tryz.prog.follows .mixedOrders = true) (hn : ps.length ≤ 1000) : ACalls Tryz.prog Ev 27 [posA f r (.lst (pcs ps)) b k e h n] (bdA f r (.own 0)) [(0, .row 48 1 (pcs ps))] := by
  simp only [posA, bdA]
  have hcl := clone_a hE hf ps hn
  generalize pcs ps = rows at *
  refine ACalls.of hE hf Tryz.func27 rfl (by simp [Tryz.f27]) (Nat.le_of_ble_eq_true rfl) fun F hF => ?_
  simp only [entry, num0, Tryz.ntmps27]
  refine R ?_
  exact (hF _ ⟨[(24, 0)], _, rfl, rfl, rfl, rfl⟩).1
def ofR (v : Bool) (f r : Int) (b : Bool) : AV := if v then .tup [posA f r (.own 0) b 0 (-1) 0 1, .val (.int .i64 0)] else .tup [posA 0 0 (.lst []) false 0 0 0 0, .val (.int .i64 2)]
set_option maxRecDepth 10000 in
theorem pof_a (hE : Stable Ev) (hf : Tryz.prog.follows .mixedOrders = true) (hn : ps.length ≤ 1000) {v : Bool} (hv : ACalls Tryz.prog Ev 18 [posA f r (.lst (pcs ps)) b 0 (-1) 0 1] (.val (.bool v)) []) :
    ACalls Tryz.prog Ev 28 [bdA f r (.lst (pcs ps)), .val (.bool b)] (ofR v f r b) (if v then [(0, .row 48 1 (pcs ps))] else []) := by
  have hcl := clone_a hE hf ps hn
  simp only [posA, bdA, ofR] at *
  generalize pcs ps = rows at *
  refine ACalls.of hE hf Tryz.func28 rfl (by simp [Tryz.f28]) (Nat.le_of_ble_eq_true rfl) fun F hF => ?_
  simp only [entry, num0, Tryz.ntmps28]
  cases v
  · refine R ?_
    exact (hF _ ⟨[], _, rfl, rfl, rfl, rfl⟩).1
  · refine R ?_
    exact (hF _ ⟨[(28, 0)], _, rfl, rfl, rfl, rfl⟩).1
end E
end
end Go.Proofs.YtbhienpbfidgjaaGreatDoor
