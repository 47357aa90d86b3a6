/- A step towards WindowAcceptsSaid: no conditions. -/
import Derived.Test.YtcfbcgmikfmllaaWinSpec
namespace Go.Proofs.Ytcfbcgmikfmllaa
open Go Go.Eng
theorem vc9 (u : Bool) (t c : UInt64) (ws : List UInt64) : (vcFn E0 100 9 [.agg [.one (.b u), .one (.u64 t), .vec (.n 4) (.u64 ws)], .s (.u64 c)] (.s (.b (chk ⟨u, t, ws⟩ c)))) =
  (((!u) = true → true = chk { u := u, t := t, ws := ws } c ∧ True) ∧
    ((!u) = false →
      (decide (t < c) = true → true = chk { u := u, t := t, ws := ws } c ∧ True) ∧
        (decide (t < c) = false →
          UInt64.ofNat (nat_lit 64) ≠ (0 : UInt64) ∧
            UInt64.ofNat (nat_lit 64) ≠ (0 : UInt64) ∧
              (decide (t / UInt64.ofNat (nat_lit 64) - c / UInt64.ofNat (nat_lit 64) ≤ UInt64.ofNat (nat_lit 3)) = true →
                  UInt64.ofNat (nat_lit 64) ≠ (0 : UInt64) ∧
                    UInt64.ofNat (nat_lit 4) ≠ (0 : UInt64) ∧
                      (c / UInt64.ofNat (nat_lit 64) % UInt64.ofNat (nat_lit 4)).toNat < (4 : Nat) ∧
                        (c / UInt64.ofNat (nat_lit 64) % UInt64.ofNat (nat_lit 4)).toNat < (4 : Nat) ∧
                          UInt64.ofNat (nat_lit 64) ≠ (0 : UInt64) ∧
                            (shr64 (ws.getD (c / UInt64.ofNat (nat_lit 64) % UInt64.ofNat (nat_lit 4)).toNat (0 : UInt64))
                                      (c % UInt64.ofNat (nat_lit 64)).toNat &&&
                                    UInt64.ofNat (nat_lit 1) ==
                                  UInt64.ofNat (nat_lit 0)) =
                                chk { u := u, t := t, ws := ws } c ∧
                              True) ∧
                (decide (t / UInt64.ofNat (nat_lit 64) - c / UInt64.ofNat (nat_lit 64) ≤ UInt64.ofNat (nat_lit 3)) =
                    false →
                  false = chk { u := u, t := t, ws := ws } c ∧ True)))) := by kernel_rfl
theorem vc8 (u : Bool) (t c : UInt64) (ws : List UInt64) : (vcFn E0 100 8 [.agg [.one (.b u), .one (.u64 t), .vec (.n 4) (.u64 ws)], .s (.u64 c)] (.s (.b (chk ⟨u, t, ws⟩ c)))) =
  (((!u) = true → true = chk { u := u, t := t, ws := ws } c ∧ True) ∧
    ((!u) = false →
      (decide (t < c) = true → true = chk { u := u, t := t, ws := ws } c ∧ True) ∧
        (decide (t < c) = false →
          UInt64.ofNat (nat_lit 64) ≠ (0 : UInt64) ∧
            UInt64.ofNat (nat_lit 64) ≠ (0 : UInt64) ∧
              (decide (t / UInt64.ofNat (nat_lit 64) - c / UInt64.ofNat (nat_lit 64) < UInt64.ofNat (nat_lit 4)) = true →
                  UInt64.ofNat (nat_lit 4) ≠ (0 : UInt64) ∧
                    (c / UInt64.ofNat (nat_lit 64) % UInt64.ofNat (nat_lit 4)).toNat < (4 : Nat) ∧
                      (c / UInt64.ofNat (nat_lit 64) % UInt64.ofNat (nat_lit 4)).toNat < (4 : Nat) ∧
                        UInt64.ofNat (nat_lit 64) ≠ (0 : UInt64) ∧
                          (shr64 (ws.getD (c / UInt64.ofNat (nat_lit 64) % UInt64.ofNat (nat_lit 4)).toNat (0 : UInt64))
                                    (c % UInt64.ofNat (nat_lit 64)).toNat &&&
                                  UInt64.ofNat (nat_lit 1) ==
                                UInt64.ofNat (nat_lit 0)) =
                              chk { u := u, t := t, ws := ws } c ∧
                            True) ∧
                (decide (t / UInt64.ofNat (nat_lit 64) - c / UInt64.ofNat (nat_lit 64) < UInt64.ofNat (nat_lit 4)) =
                    false →
                  false = chk { u := u, t := t, ws := ws } c ∧ True)))) := by kernel_rfl
theorem vc6 (u : Bool) (t c : UInt64) (ws : List UInt64) : (vcFn (E6) 100 6 [.agg [.one (.b u), .one (.u64 t), .vec (.n 4) (.u64 ws)], .s (.u64 c)] (.tup [(acc ⟨u, t, ws⟩ c).W, .s (.b (chk ⟨u, t, ws⟩ c))])) =
  (((!chk { u := u, t := t, ws := ws } c) = true →
      u = (acc { u := u, t := t, ws := ws } c).u ∧
        t = (acc { u := u, t := t, ws := ws } c).t ∧
          ws = (acc { u := u, t := t, ws := ws } c).ws ∧ false = chk { u := u, t := t, ws := ws } c ∧ True) ∧
    ((!chk { u := u, t := t, ws := ws } c) = false →
      UInt64.ofNat (nat_lit 64) ≠ (0 : UInt64) ∧
        ((!u) = true →
            UInt64.ofNat (nat_lit 4) ≠ (0 : UInt64) ∧
              (c / UInt64.ofNat (nat_lit 64) % UInt64.ofNat (nat_lit 4)).toNat < (4 : Nat) ∧
                (c / UInt64.ofNat (nat_lit 64) % UInt64.ofNat (nat_lit 4)).toNat < (4 : Nat) ∧
                  UInt64.ofNat (nat_lit 64) ≠ (0 : UInt64) ∧
                    (c / UInt64.ofNat (nat_lit 64) % UInt64.ofNat (nat_lit 4)).toNat < (4 : Nat) ∧
                      (c / UInt64.ofNat (nat_lit 64) % UInt64.ofNat (nat_lit 4)).toNat < (4 : Nat) ∧
                        true = (acc { u := u, t := t, ws := ws } c).u ∧
                          c = (acc { u := u, t := t, ws := ws } c).t ∧
                            (List.replicate (4 : Nat) (0 : UInt64)).set
                                  (c / UInt64.ofNat (nat_lit 64) % UInt64.ofNat (nat_lit 4)).toNat
                                  ((List.replicate (4 : Nat) (0 : UInt64)).getD
                                      (c / UInt64.ofNat (nat_lit 64) % UInt64.ofNat (nat_lit 4)).toNat (0 : UInt64) |||
                                    shl64 (UInt64.ofNat (nat_lit 1)) (c % UInt64.ofNat (nat_lit 64)).toNat) =
                                (acc { u := u, t := t, ws := ws } c).ws ∧
                              true = chk { u := u, t := t, ws := ws } c ∧ True) ∧
          ((!u) = false →
            (decide (t < c) = true →
                UInt64.ofNat (nat_lit 64) ≠ (0 : UInt64) ∧
                  (∃ x,
                      x ≤
                          (if
                                UInt64.ofNat (nat_lit 4) <
                                  c / UInt64.ofNat (nat_lit 64) - t / UInt64.ofNat (nat_lit 64) then
                              UInt64.ofNat (nat_lit 4)
                            else c / UInt64.ofNat (nat_lit 64) - t / UInt64.ofNat (nat_lit 64)).toNat ∧
                        c = c ∧
                          c / UInt64.ofNat (nat_lit 64) = c / UInt64.ofNat (nat_lit 64) ∧
                            t / UInt64.ofNat (nat_lit 64) = t / UInt64.ofNat (nat_lit 64) ∧
                              ((if
                                      UInt64.ofNat (nat_lit 4) <
                                        c / UInt64.ofNat (nat_lit 64) - t / UInt64.ofNat (nat_lit 64) then
                                    UInt64.ofNat (nat_lit 4)
                                  else c / UInt64.ofNat (nat_lit 64) - t / UInt64.ofNat (nat_lit 64)) =
                                  if
                                      UInt64.ofNat (nat_lit 4) <
                                        c / UInt64.ofNat (nat_lit 64) - t / UInt64.ofNat (nat_lit 64) then
                                    UInt64.ofNat (nat_lit 4)
                                  else c / UInt64.ofNat (nat_lit 64) - t / UInt64.ofNat (nat_lit 64)) ∧
                                UInt64.ofNat (nat_lit 0) = UInt64.ofNat x ∧
                                  u = true ∧
                                    t = t ∧
                                      ws = clr ws (t / (64 : UInt64)) x ∧
                                        false = false ∧
                                          (0 : UInt64) = (0 : UInt64) ∧
                                            List.replicate (4 : Nat) (0 : UInt64) =
                                                List.replicate (4 : Nat) (0 : UInt64) ∧
                                              True) ∧
                    ∀ (x : Nat),
                      x ≤
                          (if
                                UInt64.ofNat (nat_lit 4) <
                                  c / UInt64.ofNat (nat_lit 64) - t / UInt64.ofNat (nat_lit 64) then
                              UInt64.ofNat (nat_lit 4)
                            else c / UInt64.ofNat (nat_lit 64) - t / UInt64.ofNat (nat_lit 64)).toNat →
                        (decide
                                (UInt64.ofNat x <
                                  if
                                      UInt64.ofNat (nat_lit 4) <
                                        c / UInt64.ofNat (nat_lit 64) - t / UInt64.ofNat (nat_lit 64) then
                                    UInt64.ofNat (nat_lit 4)
                                  else c / UInt64.ofNat (nat_lit 64) - t / UInt64.ofNat (nat_lit 64)) =
                              true →
                            UInt64.ofNat (nat_lit 4) ≠ (0 : UInt64) ∧
                              ((t / UInt64.ofNat (nat_lit 64) + UInt64.ofNat (nat_lit 1) + UInt64.ofNat x) %
                                      UInt64.ofNat (nat_lit 4)).toNat <
                                  (4 : Nat) ∧
                                ((t / UInt64.ofNat (nat_lit 64) + UInt64.ofNat (nat_lit 1) + UInt64.ofNat x) %
                                        UInt64.ofNat (nat_lit 4)).toNat <
                                    (4 : Nat) ∧
                                  ∃ y,
                                    y ≤
                                        (if
                                              UInt64.ofNat (nat_lit 4) <
                                                c / UInt64.ofNat (nat_lit 64) - t / UInt64.ofNat (nat_lit 64) then
                                            UInt64.ofNat (nat_lit 4)
                                          else c / UInt64.ofNat (nat_lit 64) - t / UInt64.ofNat (nat_lit 64)).toNat ∧
                                      (if
                                                  UInt64.ofNat (nat_lit 4) <
                                                    c / UInt64.ofNat (nat_lit 64) - t / UInt64.ofNat (nat_lit 64) then
                                                UInt64.ofNat (nat_lit 4)
                                              else c / UInt64.ofNat (nat_lit 64) - t / UInt64.ofNat (nat_lit 64)).toNat -
                                            y <
                                          (if
                                                  UInt64.ofNat (nat_lit 4) <
                                                    c / UInt64.ofNat (nat_lit 64) - t / UInt64.ofNat (nat_lit 64) then
                                                UInt64.ofNat (nat_lit 4)
                                              else c / UInt64.ofNat (nat_lit 64) - t / UInt64.ofNat (nat_lit 64)).toNat -
                                            x ∧
                                        c = c ∧
                                          c / UInt64.ofNat (nat_lit 64) = c / UInt64.ofNat (nat_lit 64) ∧
                                            t / UInt64.ofNat (nat_lit 64) = t / UInt64.ofNat (nat_lit 64) ∧
                                              ((if
                                                      UInt64.ofNat (nat_lit 4) <
                                                        c / UInt64.ofNat (nat_lit 64) - t / UInt64.ofNat (nat_lit 64) then
                                                    UInt64.ofNat (nat_lit 4)
                                                  else c / UInt64.ofNat (nat_lit 64) - t / UInt64.ofNat (nat_lit 64)) =
                                                  if
                                                      UInt64.ofNat (nat_lit 4) <
                                                        c / UInt64.ofNat (nat_lit 64) - t / UInt64.ofNat (nat_lit 64) then
                                                    UInt64.ofNat (nat_lit 4)
                                                  else c / UInt64.ofNat (nat_lit 64) - t / UInt64.ofNat (nat_lit 64)) ∧
                                                UInt64.ofNat x + UInt64.ofNat (nat_lit 1) = UInt64.ofNat y ∧
                                                  true = true ∧
                                                    t = t ∧
                                                      (clr ws (t / (64 : UInt64)) x).set
                                                            ((t / UInt64.ofNat (nat_lit 64) + UInt64.ofNat (nat_lit 1) +
                                                                  UInt64.ofNat x) %
                                                                UInt64.ofNat (nat_lit 4)).toNat
                                                            (UInt64.ofNat (nat_lit 0)) =
                                                          clr ws (t / (64 : UInt64)) y ∧
                                                        false = false ∧
                                                          (0 : UInt64) = (0 : UInt64) ∧
                                                            List.replicate (4 : Nat) (0 : UInt64) =
                                                                List.replicate (4 : Nat) (0 : UInt64) ∧
                                                              True) ∧
                          (decide
                                (UInt64.ofNat x <
                                  if
                                      UInt64.ofNat (nat_lit 4) <
                                        c / UInt64.ofNat (nat_lit 64) - t / UInt64.ofNat (nat_lit 64) then
                                    UInt64.ofNat (nat_lit 4)
                                  else c / UInt64.ofNat (nat_lit 64) - t / UInt64.ofNat (nat_lit 64)) =
                              false →
                            UInt64.ofNat (nat_lit 4) ≠ (0 : UInt64) ∧
                              (c / UInt64.ofNat (nat_lit 64) % UInt64.ofNat (nat_lit 4)).toNat < (4 : Nat) ∧
                                (c / UInt64.ofNat (nat_lit 64) % UInt64.ofNat (nat_lit 4)).toNat < (4 : Nat) ∧
                                  UInt64.ofNat (nat_lit 64) ≠ (0 : UInt64) ∧
                                    (c / UInt64.ofNat (nat_lit 64) % UInt64.ofNat (nat_lit 4)).toNat < (4 : Nat) ∧
                                      (c / UInt64.ofNat (nat_lit 64) % UInt64.ofNat (nat_lit 4)).toNat < (4 : Nat) ∧
                                        true = (acc { u := u, t := t, ws := ws } c).u ∧
                                          c = (acc { u := u, t := t, ws := ws } c).t ∧
                                            (clr ws (t / (64 : UInt64)) x).set
                                                  (c / UInt64.ofNat (nat_lit 64) % UInt64.ofNat (nat_lit 4)).toNat
                                                  ((clr ws (t / (64 : UInt64)) x).getD
                                                      (c / UInt64.ofNat (nat_lit 64) % UInt64.ofNat (nat_lit 4)).toNat
                                                      (0 : UInt64) |||
                                                    shl64 (UInt64.ofNat (nat_lit 1))
                                                      (c % UInt64.ofNat (nat_lit 64)).toNat) =
                                                (acc { u := u, t := t, ws := ws } c).ws ∧
                                              true = chk { u := u, t := t, ws := ws } c ∧ True)) ∧
              (decide (t < c) = false →
                UInt64.ofNat (nat_lit 4) ≠ (0 : UInt64) ∧
                  (c / UInt64.ofNat (nat_lit 64) % UInt64.ofNat (nat_lit 4)).toNat < (4 : Nat) ∧
                    (c / UInt64.ofNat (nat_lit 64) % UInt64.ofNat (nat_lit 4)).toNat < (4 : Nat) ∧
                      UInt64.ofNat (nat_lit 64) ≠ (0 : UInt64) ∧
                        (c / UInt64.ofNat (nat_lit 64) % UInt64.ofNat (nat_lit 4)).toNat < (4 : Nat) ∧
                          (c / UInt64.ofNat (nat_lit 64) % UInt64.ofNat (nat_lit 4)).toNat < (4 : Nat) ∧
                            u = (acc { u := u, t := t, ws := ws } c).u ∧
                              t = (acc { u := u, t := t, ws := ws } c).t ∧
                                ws.set (c / UInt64.ofNat (nat_lit 64) % UInt64.ofNat (nat_lit 4)).toNat
                                      (ws.getD (c / UInt64.ofNat (nat_lit 64) % UInt64.ofNat (nat_lit 4)).toNat
                                          (0 : UInt64) |||
                                        shl64 (UInt64.ofNat (nat_lit 1)) (c % UInt64.ofNat (nat_lit 64)).toNat) =
                                    (acc { u := u, t := t, ws := ws } c).ws ∧
                                  true = chk { u := u, t := t, ws := ws } c ∧ True)))) := by kernel_rfl
theorem vc7 (u : Bool) (t c : UInt64) (ws : List UInt64) : (vcFn (E7) 100 7 [.agg [.one (.b u), .one (.u64 t), .vec (.n 4) (.u64 ws)], .s (.u64 c)] (.tup [(acc ⟨u, t, ws⟩ c).W, .s (.b (chk ⟨u, t, ws⟩ c))])) =
  (((!chk { u := u, t := t, ws := ws } c) = true →
      u = (acc { u := u, t := t, ws := ws } c).u ∧
        t = (acc { u := u, t := t, ws := ws } c).t ∧
          ws = (acc { u := u, t := t, ws := ws } c).ws ∧ false = chk { u := u, t := t, ws := ws } c ∧ True) ∧
    ((!chk { u := u, t := t, ws := ws } c) = false →
      ((!u) = true →
          (decide (c < c) = true →
              (∃ x,
                  x ≤ (m4 (c / (64 : UInt64) - c / (64 : UInt64))).toNat ∧
                    c = c ∧
                      UInt64.ofNat (nat_lit 1) = (1 : UInt64) + UInt64.ofNat x ∧
                        true = true ∧
                          c = c ∧
                            List.replicate (4 : Nat) (0 : UInt64) =
                                clr (List.replicate (4 : Nat) (0 : UInt64)) (c / (64 : UInt64)) x ∧
                              false = false ∧
                                (0 : UInt64) = (0 : UInt64) ∧
                                  List.replicate (4 : Nat) (0 : UInt64) = List.replicate (4 : Nat) (0 : UInt64) ∧ True) ∧
                ∀ (x : Nat),
                  x ≤ (m4 (c / (64 : UInt64) - c / (64 : UInt64))).toNat →
                    UInt64.ofNat (nat_lit 64) ≠ (0 : UInt64) ∧
                      UInt64.ofNat (nat_lit 64) ≠ (0 : UInt64) ∧
                        (decide
                                ((1 : UInt64) + UInt64.ofNat x ≤
                                  if
                                      UInt64.ofNat (nat_lit 4) <
                                        c / UInt64.ofNat (nat_lit 64) - c / UInt64.ofNat (nat_lit 64) then
                                    UInt64.ofNat (nat_lit 4)
                                  else c / UInt64.ofNat (nat_lit 64) - c / UInt64.ofNat (nat_lit 64)) =
                              true →
                            UInt64.ofNat (nat_lit 64) ≠ (0 : UInt64) ∧
                              UInt64.ofNat (nat_lit 4) ≠ (0 : UInt64) ∧
                                ((c / UInt64.ofNat (nat_lit 64) + ((1 : UInt64) + UInt64.ofNat x)) %
                                        UInt64.ofNat (nat_lit 4)).toNat <
                                    (4 : Nat) ∧
                                  ((c / UInt64.ofNat (nat_lit 64) + ((1 : UInt64) + UInt64.ofNat x)) %
                                          UInt64.ofNat (nat_lit 4)).toNat <
                                      (4 : Nat) ∧
                                    ∃ y,
                                      y ≤ (m4 (c / (64 : UInt64) - c / (64 : UInt64))).toNat ∧
                                        (m4 (c / (64 : UInt64) - c / (64 : UInt64))).toNat - y <
                                            (m4 (c / (64 : UInt64) - c / (64 : UInt64))).toNat - x ∧
                                          c = c ∧
                                            (1 : UInt64) + UInt64.ofNat x + UInt64.ofNat (nat_lit 1) =
                                                (1 : UInt64) + UInt64.ofNat y ∧
                                              true = true ∧
                                                c = c ∧
                                                  (clr (List.replicate (4 : Nat) (0 : UInt64)) (c / (64 : UInt64)) x).set
                                                        ((c / UInt64.ofNat (nat_lit 64) +
                                                              ((1 : UInt64) + UInt64.ofNat x)) %
                                                            UInt64.ofNat (nat_lit 4)).toNat
                                                        (UInt64.ofNat (nat_lit 0)) =
                                                      clr (List.replicate (4 : Nat) (0 : UInt64)) (c / (64 : UInt64)) y ∧
                                                    false = false ∧
                                                      (0 : UInt64) = (0 : UInt64) ∧
                                                        List.replicate (4 : Nat) (0 : UInt64) =
                                                            List.replicate (4 : Nat) (0 : UInt64) ∧
                                                          True) ∧
                          (decide
                                ((1 : UInt64) + UInt64.ofNat x ≤
                                  if
                                      UInt64.ofNat (nat_lit 4) <
                                        c / UInt64.ofNat (nat_lit 64) - c / UInt64.ofNat (nat_lit 64) then
                                    UInt64.ofNat (nat_lit 4)
                                  else c / UInt64.ofNat (nat_lit 64) - c / UInt64.ofNat (nat_lit 64)) =
                              false →
                            UInt64.ofNat (nat_lit 64) ≠ (0 : UInt64) ∧
                              UInt64.ofNat (nat_lit 4) ≠ (0 : UInt64) ∧
                                (c / UInt64.ofNat (nat_lit 64) % UInt64.ofNat (nat_lit 4)).toNat < (4 : Nat) ∧
                                  (c / UInt64.ofNat (nat_lit 64) % UInt64.ofNat (nat_lit 4)).toNat < (4 : Nat) ∧
                                    UInt64.ofNat (nat_lit 64) ≠ (0 : UInt64) ∧
                                      (c / UInt64.ofNat (nat_lit 64) % UInt64.ofNat (nat_lit 4)).toNat < (4 : Nat) ∧
                                        (c / UInt64.ofNat (nat_lit 64) % UInt64.ofNat (nat_lit 4)).toNat < (4 : Nat) ∧
                                          true = (acc { u := u, t := t, ws := ws } c).u ∧
                                            c = (acc { u := u, t := t, ws := ws } c).t ∧
                                              (clr (List.replicate (4 : Nat) (0 : UInt64)) (c / (64 : UInt64)) x).set
                                                    (c / UInt64.ofNat (nat_lit 64) % UInt64.ofNat (nat_lit 4)).toNat
                                                    ((clr (List.replicate (4 : Nat) (0 : UInt64)) (c / (64 : UInt64))
                                                            x).getD
                                                        (c / UInt64.ofNat (nat_lit 64) % UInt64.ofNat (nat_lit 4)).toNat
                                                        (0 : UInt64) |||
                                                      shl64 (UInt64.ofNat (nat_lit 1))
                                                        (c % UInt64.ofNat (nat_lit 64)).toNat) =
                                                  (acc { u := u, t := t, ws := ws } c).ws ∧
                                                true = chk { u := u, t := t, ws := ws } c ∧ True)) ∧
            (decide (c < c) = false →
              UInt64.ofNat (nat_lit 64) ≠ (0 : UInt64) ∧
                UInt64.ofNat (nat_lit 4) ≠ (0 : UInt64) ∧
                  (c / UInt64.ofNat (nat_lit 64) % UInt64.ofNat (nat_lit 4)).toNat < (4 : Nat) ∧
                    (c / UInt64.ofNat (nat_lit 64) % UInt64.ofNat (nat_lit 4)).toNat < (4 : Nat) ∧
                      UInt64.ofNat (nat_lit 64) ≠ (0 : UInt64) ∧
                        (c / UInt64.ofNat (nat_lit 64) % UInt64.ofNat (nat_lit 4)).toNat < (4 : Nat) ∧
                          (c / UInt64.ofNat (nat_lit 64) % UInt64.ofNat (nat_lit 4)).toNat < (4 : Nat) ∧
                            true = (acc { u := u, t := t, ws := ws } c).u ∧
                              c = (acc { u := u, t := t, ws := ws } c).t ∧
                                (List.replicate (4 : Nat) (0 : UInt64)).set
                                      (c / UInt64.ofNat (nat_lit 64) % UInt64.ofNat (nat_lit 4)).toNat
                                      ((List.replicate (4 : Nat) (0 : UInt64)).getD
                                          (c / UInt64.ofNat (nat_lit 64) % UInt64.ofNat (nat_lit 4)).toNat
                                          (0 : UInt64) |||
                                        shl64 (UInt64.ofNat (nat_lit 1)) (c % UInt64.ofNat (nat_lit 64)).toNat) =
                                    (acc { u := u, t := t, ws := ws } c).ws ∧
                                  true = chk { u := u, t := t, ws := ws } c ∧ True)) ∧
        ((!u) = false →
          (decide (t < c) = true →
              (∃ x,
                  x ≤ (m4 (c / (64 : UInt64) - t / (64 : UInt64))).toNat ∧
                    c = c ∧
                      UInt64.ofNat (nat_lit 1) = (1 : UInt64) + UInt64.ofNat x ∧
                        u = true ∧
                          t = t ∧
                            ws = clr ws (t / (64 : UInt64)) x ∧
                              false = false ∧
                                (0 : UInt64) = (0 : UInt64) ∧
                                  List.replicate (4 : Nat) (0 : UInt64) = List.replicate (4 : Nat) (0 : UInt64) ∧ True) ∧
                ∀ (x : Nat),
                  x ≤ (m4 (c / (64 : UInt64) - t / (64 : UInt64))).toNat →
                    UInt64.ofNat (nat_lit 64) ≠ (0 : UInt64) ∧
                      UInt64.ofNat (nat_lit 64) ≠ (0 : UInt64) ∧
                        (decide
                                ((1 : UInt64) + UInt64.ofNat x ≤
                                  if
                                      UInt64.ofNat (nat_lit 4) <
                                        c / UInt64.ofNat (nat_lit 64) - t / UInt64.ofNat (nat_lit 64) then
                                    UInt64.ofNat (nat_lit 4)
                                  else c / UInt64.ofNat (nat_lit 64) - t / UInt64.ofNat (nat_lit 64)) =
                              true →
                            UInt64.ofNat (nat_lit 64) ≠ (0 : UInt64) ∧
                              UInt64.ofNat (nat_lit 4) ≠ (0 : UInt64) ∧
                                ((t / UInt64.ofNat (nat_lit 64) + ((1 : UInt64) + UInt64.ofNat x)) %
                                        UInt64.ofNat (nat_lit 4)).toNat <
                                    (4 : Nat) ∧
                                  ((t / UInt64.ofNat (nat_lit 64) + ((1 : UInt64) + UInt64.ofNat x)) %
                                          UInt64.ofNat (nat_lit 4)).toNat <
                                      (4 : Nat) ∧
                                    ∃ y,
                                      y ≤ (m4 (c / (64 : UInt64) - t / (64 : UInt64))).toNat ∧
                                        (m4 (c / (64 : UInt64) - t / (64 : UInt64))).toNat - y <
                                            (m4 (c / (64 : UInt64) - t / (64 : UInt64))).toNat - x ∧
                                          c = c ∧
                                            (1 : UInt64) + UInt64.ofNat x + UInt64.ofNat (nat_lit 1) =
                                                (1 : UInt64) + UInt64.ofNat y ∧
                                              true = true ∧
                                                t = t ∧
                                                  (clr ws (t / (64 : UInt64)) x).set
                                                        ((t / UInt64.ofNat (nat_lit 64) +
                                                              ((1 : UInt64) + UInt64.ofNat x)) %
                                                            UInt64.ofNat (nat_lit 4)).toNat
                                                        (UInt64.ofNat (nat_lit 0)) =
                                                      clr ws (t / (64 : UInt64)) y ∧
                                                    false = false ∧
                                                      (0 : UInt64) = (0 : UInt64) ∧
                                                        List.replicate (4 : Nat) (0 : UInt64) =
                                                            List.replicate (4 : Nat) (0 : UInt64) ∧
                                                          True) ∧
                          (decide
                                ((1 : UInt64) + UInt64.ofNat x ≤
                                  if
                                      UInt64.ofNat (nat_lit 4) <
                                        c / UInt64.ofNat (nat_lit 64) - t / UInt64.ofNat (nat_lit 64) then
                                    UInt64.ofNat (nat_lit 4)
                                  else c / UInt64.ofNat (nat_lit 64) - t / UInt64.ofNat (nat_lit 64)) =
                              false →
                            UInt64.ofNat (nat_lit 64) ≠ (0 : UInt64) ∧
                              UInt64.ofNat (nat_lit 4) ≠ (0 : UInt64) ∧
                                (c / UInt64.ofNat (nat_lit 64) % UInt64.ofNat (nat_lit 4)).toNat < (4 : Nat) ∧
                                  (c / UInt64.ofNat (nat_lit 64) % UInt64.ofNat (nat_lit 4)).toNat < (4 : Nat) ∧
                                    UInt64.ofNat (nat_lit 64) ≠ (0 : UInt64) ∧
                                      (c / UInt64.ofNat (nat_lit 64) % UInt64.ofNat (nat_lit 4)).toNat < (4 : Nat) ∧
                                        (c / UInt64.ofNat (nat_lit 64) % UInt64.ofNat (nat_lit 4)).toNat < (4 : Nat) ∧
                                          true = (acc { u := u, t := t, ws := ws } c).u ∧
                                            c = (acc { u := u, t := t, ws := ws } c).t ∧
                                              (clr ws (t / (64 : UInt64)) x).set
                                                    (c / UInt64.ofNat (nat_lit 64) % UInt64.ofNat (nat_lit 4)).toNat
                                                    ((clr ws (t / (64 : UInt64)) x).getD
                                                        (c / UInt64.ofNat (nat_lit 64) % UInt64.ofNat (nat_lit 4)).toNat
                                                        (0 : UInt64) |||
                                                      shl64 (UInt64.ofNat (nat_lit 1))
                                                        (c % UInt64.ofNat (nat_lit 64)).toNat) =
                                                  (acc { u := u, t := t, ws := ws } c).ws ∧
                                                true = chk { u := u, t := t, ws := ws } c ∧ True)) ∧
            (decide (t < c) = false →
              UInt64.ofNat (nat_lit 64) ≠ (0 : UInt64) ∧
                UInt64.ofNat (nat_lit 4) ≠ (0 : UInt64) ∧
                  (c / UInt64.ofNat (nat_lit 64) % UInt64.ofNat (nat_lit 4)).toNat < (4 : Nat) ∧
                    (c / UInt64.ofNat (nat_lit 64) % UInt64.ofNat (nat_lit 4)).toNat < (4 : Nat) ∧
                      UInt64.ofNat (nat_lit 64) ≠ (0 : UInt64) ∧
                        (c / UInt64.ofNat (nat_lit 64) % UInt64.ofNat (nat_lit 4)).toNat < (4 : Nat) ∧
                          (c / UInt64.ofNat (nat_lit 64) % UInt64.ofNat (nat_lit 4)).toNat < (4 : Nat) ∧
                            u = (acc { u := u, t := t, ws := ws } c).u ∧
                              t = (acc { u := u, t := t, ws := ws } c).t ∧
                                ws.set (c / UInt64.ofNat (nat_lit 64) % UInt64.ofNat (nat_lit 4)).toNat
                                      (ws.getD (c / UInt64.ofNat (nat_lit 64) % UInt64.ofNat (nat_lit 4)).toNat
                                          (0 : UInt64) |||
                                        shl64 (UInt64.ofNat (nat_lit 1)) (c % UInt64.ofNat (nat_lit 64)).toNat) =
                                    (acc { u := u, t := t, ws := ws } c).ws ∧
                                  true = chk { u := u, t := t, ws := ws } c ∧ True)))) := by kernel_rfl
theorem vc10 (u : Bool) (t : UInt64) (ws : List UInt64) (x : UInt16) : (vcFn E0 100 10 [.agg [.one (.b u), .one (.u64 t), .vec (.n 4) (.u64 ws)], .s (.u16 x)] (.s (.u64 (nearS t x)))) =
  (UInt16.ofNat (nat_lit 600) ≠ (0 : UInt16) ∧
    (decide (UInt16.ofNat (nat_lit 60000) ≤ x) = true → shl64 x.toUInt64 (40 : Nat) = nearS t x ∧ True) ∧
      (decide (UInt16.ofNat (nat_lit 60000) ≤ x) = false →
        (decide
                (t + ((x % UInt16.ofNat (nat_lit 600)).toUInt64 - UInt64.ofNat (nat_lit 300)) <
                  UInt64.ofNat (nat_lit 9223372036854775808)) =
              true →
            t + ((x % UInt16.ofNat (nat_lit 600)).toUInt64 - UInt64.ofNat (nat_lit 300)) = nearS t x ∧ True) ∧
          (decide
                (t + ((x % UInt16.ofNat (nat_lit 600)).toUInt64 - UInt64.ofNat (nat_lit 300)) <
                  UInt64.ofNat (nat_lit 9223372036854775808)) =
              false →
            (decide (UInt64.ofNat (nat_lit 4611686018427387904) ≤ t) = true →
                t + ((x % UInt16.ofNat (nat_lit 600)).toUInt64 - UInt64.ofNat (nat_lit 300)) = nearS t x ∧ True) ∧
              (decide (UInt64.ofNat (nat_lit 4611686018427387904) ≤ t) = false →
                UInt16.ofNat (nat_lit 64) ≠ (0 : UInt16) ∧ (x % UInt16.ofNat (nat_lit 64)).toUInt64 = nearS t x ∧ True)))) := by kernel_rfl
theorem vc11  : (vcFn E11 100 11 [] (.s (.b true))) =
  ((chk { u := false, t := (0 : UInt64), ws := List.replicate (4 : Nat) (0 : UInt64) } (UInt64.ofNat (nat_lit 300)) =
        true →
      (chk
              (acc { u := false, t := (0 : UInt64), ws := List.replicate (4 : Nat) (0 : UInt64) }
                (UInt64.ofNat (nat_lit 300)))
              (UInt64.ofNat (nat_lit 100)) =
            true →
          ((!chk
                    (acc
                      (acc { u := false, t := (0 : UInt64), ws := List.replicate (4 : Nat) (0 : UInt64) }
                        (UInt64.ofNat (nat_lit 300)))
                      (UInt64.ofNat (nat_lit 100)))
                    (UInt64.ofNat (nat_lit 63))) =
                true →
              (chk
                      (acc
                        (acc { u := false, t := (0 : UInt64), ws := List.replicate (4 : Nat) (0 : UInt64) }
                          (UInt64.ofNat (nat_lit 300)))
                        (UInt64.ofNat (nat_lit 100)))
                      (UInt64.ofNat (nat_lit 64)) =
                    true →
                  ((!chk
                            (acc
                              (acc { u := false, t := (0 : UInt64), ws := List.replicate (4 : Nat) (0 : UInt64) }
                                (UInt64.ofNat (nat_lit 300)))
                              (UInt64.ofNat (nat_lit 100)))
                            (UInt64.ofNat (nat_lit 300))) =
                        true →
                      ((acc
                                (acc { u := false, t := (0 : UInt64), ws := List.replicate (4 : Nat) (0 : UInt64) }
                                  (UInt64.ofNat (nat_lit 300)))
                                (UInt64.ofNat (nat_lit 100))).t ==
                            UInt64.ofNat (nat_lit 300)) =
                          true ∧
                        True) ∧
                    ((!chk
                            (acc
                              (acc { u := false, t := (0 : UInt64), ws := List.replicate (4 : Nat) (0 : UInt64) }
                                (UInt64.ofNat (nat_lit 300)))
                              (UInt64.ofNat (nat_lit 100)))
                            (UInt64.ofNat (nat_lit 300))) =
                        false →
                      false = true ∧ True)) ∧
                (chk
                      (acc
                        (acc { u := false, t := (0 : UInt64), ws := List.replicate (4 : Nat) (0 : UInt64) }
                          (UInt64.ofNat (nat_lit 300)))
                        (UInt64.ofNat (nat_lit 100)))
                      (UInt64.ofNat (nat_lit 64)) =
                    false →
                  false = true ∧ True)) ∧
            ((!chk
                    (acc
                      (acc { u := false, t := (0 : UInt64), ws := List.replicate (4 : Nat) (0 : UInt64) }
                        (UInt64.ofNat (nat_lit 300)))
                      (UInt64.ofNat (nat_lit 100)))
                    (UInt64.ofNat (nat_lit 63))) =
                false →
              false = true ∧ True)) ∧
        (chk
              (acc { u := false, t := (0 : UInt64), ws := List.replicate (4 : Nat) (0 : UInt64) }
                (UInt64.ofNat (nat_lit 300)))
              (UInt64.ofNat (nat_lit 100)) =
            false →
          false = true ∧ True)) ∧
    (chk { u := false, t := (0 : UInt64), ws := List.replicate (4 : Nat) (0 : UInt64) } (UInt64.ofNat (nat_lit 300)) =
        false →
      false = true ∧ True)) := by kernel_rfl
end Go.Proofs.Ytcfbcgmikfmllaa
