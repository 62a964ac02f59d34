/- The operations one by one, fifth part: append and copy, the rules. -/
import Derived.Test.YtmjonmhpfngkaaaZqOps4
namespace Go.Proofs.Ytmjonmhpfngkaaa.Zq
variable {P : Program} {E : Env} {M : Mp} {H H' : Heap} {w : World}

def isIntD (d : TypeDesc) : Bool := match d with | .int _ => true | _ => false

theorem not_int {t : TypeId} {k : TK} {d : TypeDesc} (hk : KOk P t k d) (hn : ∀ j, k ≠ .int j) : isIntD d = false := by
  cases d with
  | int j => cases k <;> first | exact hk.elim | (rename_i q; exact absurd rfl (hn q))
  | _ => rfl

theorem append_in0 {ts tx ty e : TypeId} {d2 : TypeDesc} {x' : Value} {n size sLen sCap : Nat} {us : List Value} (hs : P.underlying ts = some (.slice e)) (hx : P.underlying tx = some d2)
    (hd : isIntD d2 = false) (hsz : ∀ w, (sizeOf e).run P w = .ok size w) (hn : ∀ w, (Builtin.lenOf x').run P w = .ok n w)
    (hf : (Builtin.firstCells size n x').run P w = .ok us.toArray w) (hle : sLen + n ≤ sCap) :
    (Builtin.append_ #[ts, tx] ty #[.slice none sLen sCap, x']).run P w = .ok (.slice none (sLen + n) sCap) w := by
  cases d2 <;> first
    | (simp [isIntD] at hd; done)
    | (simp only [Builtin.append_, List.getElem?_toArray, List.getElem?_cons_zero, List.getElem?_cons_succ, Sem.run_bind, run_underlying hs, run_underlying hx, Result.andThen_ok, hsz, Sem.run_pure, Bool.false_eq_true, if_false, hn, hle, if_true, hf, Bool.not_false])

theorem append_in {ts tx ty e : TypeId} {d2 : TypeDesc} {x' : Value} {a : Addr} {sLen sCap n size : Nat} {us : List Value} (hs : P.underlying ts = some (.slice e)) (hx : P.underlying tx = some d2)
    (hd : isIntD d2 = false) (hsz : ∀ w, (sizeOf e).run P w = .ok size w) (hn : ∀ w, (Builtin.lenOf x').run P w = .ok n w)
    (hf : (Builtin.firstCells size n x').run P w = .ok us.toArray w) (hle : sLen + n ≤ sCap) :
    (Builtin.append_ #[ts, tx] ty #[.slice (some a) sLen sCap, x']).run P w = ((storeCells (a.add (sLen * size)) us).run P w).andThen fun _ w' => .ok (.slice (some a) (sLen + n) sCap) w' := by
  cases d2 <;> first
    | (simp [isIntD] at hd; done)
    | (simp only [Builtin.append_, List.getElem?_toArray, List.getElem?_cons_zero, List.getElem?_cons_succ, Sem.run_bind, run_underlying hs, run_underlying hx, Result.andThen_ok, hsz, Sem.run_pure, Bool.false_eq_true, if_false, hn, hle, if_true, hf, Bool.not_false])

theorem append_growB {ts tx ty e : TypeId} {ti : TI} {i : TypeInfo} {d d2 : TypeDesc} {z : Value} {s' x' : Value} {base : Option Addr} {sLen sCap n : Nat} {us us0 : List Value} (hs : P.underlying ts = some (.slice e)) (hx : P.underlying tx = some d2)
    (hd : isIntD d2 = false) (T : TyOk P e ti i d z) (hv : s' = .slice base sLen sCap) (hn : ∀ w, (Builtin.lenOf x').run P w = .ok n w)
    (hf : ∀ w', w'.heap = w.heap → (Builtin.firstCells ti.size n x').run P w' = .ok us.toArray w') (hf0 : ∀ w', w'.heap = w.heap → (Builtin.firstCells ti.size sLen s').run P w' = .ok us0.toArray w')
    (hlt : sCap < sLen + n) (hb : 2 * (sLen + n) * ti.bytes ≤ 281474976710656) (hb0 : ti.bytes ≠ 0) :
    ∃ newCap, sLen + n ≤ newCap ∧ newCap < 9223372036854775808 ∧ (Builtin.append_ #[ts, tx] ty #[s', x']).run P w =
      .ok (.slice (some ⟨w.heap.size, 0, none⟩) (sLen + n) newCap) (w.drew.alloc (.cells (us0.toArray ++ us.toArray ++ Builtin.zeroCells z.cells (newCap - (sLen + n))) e (0, 0))) := by
  refine ⟨(Question.appendCap (sLen + n) sCap e).cut (w.tape w.drawn (.appendCap (sLen + n) sCap e)), Nat.le_add_right _ _, ?_, ?_⟩
  · have : 0 < 9223372036854775808 - (sLen + n) := by
      have : sLen + n ≤ 2 * (sLen + n) * ti.bytes := by
        have := Nat.mul_le_mul_left (2 * (sLen + n)) (Nat.one_le_iff_ne_zero.2 hb0)
        omega
      omega
    have := Nat.mod_lt (w.tape w.drawn (.appendCap (sLen + n) sCap e)) this
    show sLen + n + w.tape w.drawn (.appendCap (sLen + n) sCap e) % (2 ^ 63 - (sLen + n)) < _
    rw [show (2 ^ 63 : Nat) = 9223372036854775808 from rfl]
    omega
  have hnext := nextcap_le (sLen + n) sCap hlt
  have hnb : ¬ Builtin.nextslicecap (sLen + n) sCap * i.bytes > 2 ^ 48 := by
    rw [T.bytes]
    have : Builtin.nextslicecap (sLen + n) sCap * ti.bytes ≤ 2 * (sLen + n) * ti.bytes := Nat.mul_le_mul_right _ hnext
    omega
  have hle : ¬ sLen + n ≤ sCap := by omega
  have hi0 : ¬ i.bytes = 0 := by rw [T.bytes]; exact hb0
  subst hv
  have g0 := hf0 w.drew rfl
  have g1 := hf w.drew rfl
  cases d2 <;> first
    | (simp [isIntD] at hd; done)
    | (simp only [Builtin.append_, List.getElem?_toArray, List.getElem?_cons_zero, List.getElem?_cons_succ, Sem.run_bind, run_underlying hs, run_underlying hx, Result.andThen_ok, T.run_size, Sem.run_pure, Bool.false_eq_true, if_false, hn, hle, T.run_info, hi0, or_self, and_false, hnb,
        Sem.run_ite, Result.andThen_ite, run_choose, Question.forced, run_askRoom, Bool.not_false, if_true, World.drew_eq, g0, g1, T.run_zero, newRow, Sem.run_bind, run_newObj, Sem.run_pure]
       rfl)

theorem append_grow {ts tx ty e : TypeId} {ti : TI} {i : TypeInfo} {d d2 : TypeDesc} {z : Value} {s' x' : Value} {base : Option Addr} {sLen sCap n : Nat} {us us0 : List Value} (hs : P.underlying ts = some (.slice e)) (hx : P.underlying tx = some d2)
    (hd : isIntD d2 = false) (T : TyOk P e ti i d z) (hv : s' = .slice base sLen sCap) (hn : ∀ w, (Builtin.lenOf x').run P w = .ok n w)
    (hf : ∀ w', w'.heap = w.heap → (Builtin.firstCells ti.size n x').run P w' = .ok us.toArray w') (hf0 : ∀ w', w'.heap = w.heap → (Builtin.firstCells ti.size sLen s').run P w' = .ok us0.toArray w')
    (hlt : sCap < sLen + n) (hb : 2 * (sLen + n) * ti.bytes ≤ 281474976710656) (hb0 : ti.bytes ≠ 0) :
    ∃ newCap, sLen + n ≤ newCap ∧ (Builtin.append_ #[ts, tx] ty #[s', x']).run P w =
      .ok (.slice (some ⟨w.heap.size, 0, none⟩) (sLen + n) newCap) (w.drew.alloc (.cells (us0.toArray ++ us.toArray ++ Builtin.zeroCells z.cells (newCap - (sLen + n))) e (0, 0))) := by
  obtain ⟨c, h1, _, h3⟩ := append_growB hs hx hd T hv hn hf hf0 hlt hb hb0
  exact ⟨c, h1, h3⟩

end Go.Proofs.Ytmjonmhpfngkaaa.Zq
