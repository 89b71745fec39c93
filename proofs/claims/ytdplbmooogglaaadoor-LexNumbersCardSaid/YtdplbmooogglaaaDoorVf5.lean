/- The quiet operations together. -/
import Derived.Test.YtdplbmooogglaaaDoorVf4
import Derived.Laws.BytesArg
import Derived.Lib.ConvBytes
set_option linter.unusedVariables false
set_option linter.unusedSimpArgs false
namespace Go.Vf
open Go.RowKit

section
variable {P : Program} {N n0 : Nat} {ρ : Rho} {E : Env} {G : Heap} {a : Act} {w : World} {n : Nat}

/-- An operation yields a value, and turns nothing. -/
def QRun (P : Program) (ρ : Rho) (G : Heap) (w : World) (s : Sem Value) (v : V) : Prop :=
  ∃ x w' ρ', s.run P w = .ok x w' ∧ WRel ρ' G w' ∧ Rho.Le G.next ρ ρ' ∧ VR ρ' G.next v x
theorem QRun.same (hW : WRel ρ G w) {s : Sem Value} {v : V} (h : ∃ x, s.run P w = .ok x w ∧ VR ρ G.next v x) : QRun P ρ G w s v :=
  let ⟨x, h1, h2⟩ := h; ⟨x, w, ρ, h1, hW, Rho.Le.refl _ _, h2⟩

theorem CellsAt.alloc (w : World) (c : Array Value) (e : TypeId) (fz : Nat × Nat) : CellsAt (w.alloc (.cells c e fz)) w.heap.size 0 c.toList := fun i x h => by
  simp only [World.cell?, World.alloc, Array.getElem?_push_size, Nat.zero_add]
  simpa using h

theorem vbytes_nums : ∀ {cells : List V} {xs : List Value} {s : List UInt8}, VRs ρ n cells xs → vbytes cells = some s → ∃ ns : List Int, xs = ns.map (fun i => Value.int .u8 i) ∧ s = ns.map fun i => UInt8.ofNat i.toNat
  | [], xs, s, h, e => by
    have : xs = [] := List.eq_nil_of_length_eq_zero h.1
    simp [vbytes] at e; subst e; exact ⟨[], by simp [this], rfl⟩
  | c :: r, xs, s, h, e => by
    match xs, h with
    | x :: xs, h =>
      cases c with
      | int k i =>
        cases k <;> simp [vbytes] at e
        obtain ⟨l, e1, rfl⟩ := e
        have h0 : VR ρ n (.int .u8 i) x := h.2 0 _ _ rfl rfl
        obtain rfl := h0.int_inv
        obtain ⟨ns, h2, h3⟩ := vbytes_nums (h.drop 1) e1
        refine ⟨i :: ns, ?_, ?_⟩
        · simp at h2; simp [h2]
        · simp [h3]
      | _ => simp [vbytes] at e

theorem toBytes_run {src dst e : TypeId} (hs : P.underlying src = some (.slice e)) (he : P.underlying e = some (.int .u8)) (hd : P.underlying dst = some .string) {b o m cap : Nat} {cells : List V} {xs : List Value} {s : List UInt8}
    (hv : VRs ρ n cells xs) (hc : CellsAt w b o xs) (hm : cells.length = m) (h : vbytes cells = some s) : (convert src dst (.slice (some ⟨b, o, none⟩) m cap)).run P w = .ok (.string ⟨s.toArray⟩) w := by
  obtain ⟨ns, rfl, rfl⟩ := vbytes_nums hv h
  have hl : ns.length = m := by have := hv.1; simp at this; omega
  rw [run_convert_bytes_arg w src e hs he b o m cap ns hl (fun i hi => ?_) dst hd]
  · simp [strOfNums]
  · apply hc i
    simp [List.getD_eq_getElem?_getD, List.getElem?_eq_getElem (show i < ns.length by omega)]

theorem vconvert_ok (hW : WRel ρ G w) {src dst : TypeId} {u : V} {x : Value} {p : Prop} {v : V} (hu : VR ρ G.next u x) (h : vconvert P src dst G u = some (p, v)) (hp : p) : QRun P ρ G w (convert src dst x) v := by
  have tb : ∀ {e : TypeId}, tbyte P e = true → P.underlying e = some (.int .u8) := fun {e} h => by
    unfold tbyte at h
    split at h
    · assumption
    · cases h
  cases u with
  | int k i =>
    simp only [vconvert] at h
    split at h
    · rename_i k1 k2 h1 h2
      simp only [Option.some.injEq, Prod.mk.injEq] at h
      obtain ⟨rfl, rfl⟩ := h
      obtain rfl := hu.int_inv
      exact QRun.same hW ⟨_, by simp [convert, run_und h1, run_und h2, Conv.intToInt], .int _ _⟩
    · cases h
  | str s =>
    simp only [vconvert] at h
    obtain rfl := hu.str_inv
    split at h
    · rename_i h1 h2
      simp only [Option.some.injEq, Prod.mk.injEq] at h
      obtain ⟨rfl, rfl⟩ := h
      exact QRun.same hW ⟨_, by simp [convert, run_und h1, run_und h2], .str _⟩
    · rename_i e h1 h2
      split at h
      · rename_i hc
        simp only [Option.some.injEq, Prod.mk.injEq] at h
        obtain ⟨rfl, rfl⟩ := h
        have hb := tb hc.1
        have hrun := Lib.run_convert_string_bytes (P := P) w src dst e ⟨s.toArray⟩ h1 h2 hb
        have hbel : Below w.heap.size w (Lib.bytesWorld w e ⟨s.toArray⟩) := by
          refine ⟨?_, ?_, ?_, by rw [Lib.bytesWorld_size]; omega, fun k hk => Lib.bytesWorld_at_old _ _ _ _ hk⟩ <;> (simp [Lib.bytesWorld, World.freeze] <;> rfl)
        have hcells : CellsAt (Lib.bytesWorld w e ⟨s.toArray⟩) w.heap.size 0 (s.map fun b => Value.int .u8 (b.toNat : Int)) := fun i x hx => by
          simp only [List.getElem?_map, Option.map_eq_some_iff] at hx
          obtain ⟨c, hc1, rfl⟩ := hx
          have hi : i < s.length := by
            rcases Nat.lt_or_ge i s.length with h' | h'
            · exact h'
            · rw [List.getElem?_eq_none h'] at hc1; cases hc1
          rw [Nat.zero_add, Lib.bytesWorld_cell _ _ _ _ (by rw [size_mk]; exact hi)]
          simp [List.getD_eq_getElem?_getD, hc1]
        have hcap : s.length ≤ grownCap w s.length 0 e := by simp [grownCap, Question.cut]
        rw [size_mk] at hrun
        obtain ⟨h3, h4, h5⟩ := hW.newImm hbel (Nat.le_refl _) hcells
        refine ⟨_, _, _, hrun, h3, h4, ?_⟩
        refine .sl 1 s.length (s.map vbyte) _ _ _ _ ?_ (by simp) hcap h5 (by simp) fun (i : Nat) (v : V) (x : Value) e1 e2 => ?_
        · exact closedL_of fun v hv => by simp [vbyte] at hv; obtain ⟨_, _, rfl⟩ := hv; exact ⟨rfl, rfl⟩
        · simp only [List.getElem?_map] at e1 e2
          cases hi : s[i]? with
          | none => rw [hi] at e1; cases e1
          | some c => rw [hi] at e1 e2; simp at e1 e2; subst e1; subst e2; exact .int _ _
      · cases h
    · cases h
  | nilsl =>
    simp only [vconvert] at h
    split at h
    · rename_i e h1 h2
      split at h
      · rename_i hc
        simp only [Option.some.injEq, Prod.mk.injEq] at h
        obtain ⟨rfl, rfl⟩ := h
        obtain rfl : x = .slice none 0 0 := by cases hu; rfl
        exact QRun.same hW ⟨_, run_convert_bytes_nil w src e h1 (tb hc) 0 0 dst h2, (VR.str []).cast rfl⟩
      · cases h
    · cases h
  | sl sz m cells =>
    simp only [vconvert] at h
    split at h
    · rename_i e h1 h2
      split at h
      · rename_i hc
        split at h
        · rename_i heq; cases heq
        · rename_i m' cells' heq
          cases heq
          simp only [Option.map_eq_some_iff, Prod.mk.injEq] at h
          obtain ⟨s, hs, rfl, rfl⟩ := h
          obtain ⟨A, cap, rfl, hm, hsl⟩ := hu.sl_inv
          rcases hsl.place with rfl | ⟨b, o, xs, rfl, hi, hv⟩
          · simp [vbytes] at hs; subst hs
            have : m = 0 := by have := hsl.len; simp at this; exact this.symm
            subst this
            cases A with
            | none => exact QRun.same hW ⟨_, run_convert_bytes_nil w src e h1 (tb hc) 0 cap dst h2, (VR.str []).cast rfl⟩
            | some A =>
              refine QRun.same hW ⟨.string ⟨#[]⟩, ?_, (VR.str []).cast rfl⟩
              simp [convert, run_und h1, run_und h2, run_und (tb hc), Conv.bytesToString, loadCells, loadCellsFrom] <;> rfl
          · exact QRun.same hW ⟨_, toBytes_run h1 (tb hc) h2 hv (hW.cellsAt hi) (by have := hsl.len; omega) hs, .str _⟩
        · rename_i heq; cases heq
        · rename_i heq; cases heq
        · cases h
      · cases h
    · cases h
  | slc sz m cells =>
    simp only [vconvert] at h
    split at h
    · rename_i e h1 h2
      split at h
      · rename_i hc
        split at h
        · rename_i heq; cases heq
        · rename_i heq; cases heq
        · rename_i m' cells' heq
          cases heq
          simp only [Option.map_eq_some_iff, Prod.mk.injEq] at h
          obtain ⟨s, hs, rfl, rfl⟩ := h
          obtain ⟨A, rfl, hsl⟩ := hu.slc_inv
          rcases hsl.place with rfl | ⟨b, o, xs, rfl, hi, hv⟩
          · simp [vbytes] at hs; subst hs
            have : m = 0 := by have := hsl.len; simp at this; exact this.symm
            subst this
            cases A with
            | none => exact QRun.same hW ⟨_, run_convert_bytes_nil w src e h1 (tb hc) 0 0 dst h2, (VR.str []).cast rfl⟩
            | some A =>
              refine QRun.same hW ⟨.string ⟨#[]⟩, ?_, (VR.str []).cast rfl⟩
              simp [convert, run_und h1, run_und h2, run_und (tb hc), Conv.bytesToString, loadCells, loadCellsFrom] <;> rfl
          · exact QRun.same hW ⟨_, toBytes_run h1 (tb hc) h2 hv (hW.cellsAt hi) (by have := hsl.len; omega) hs, .str _⟩
        · rename_i heq; cases heq
        · cases h
      · cases h
    · cases h
  | arr sz id g off m =>
    simp only [vconvert] at h
    split at h
    · rename_i e h1 h2
      split at h
      · rename_i hc
        split at h
        · rename_i heq; cases heq
        · rename_i heq; cases heq
        · rename_i heq; cases heq
        · rename_i id' g' off' m' heq
          cases heq
          split at h
          · rename_i g2 cs hg
            split at h
            · rename_i heq; subst heq
              simp only [Option.map_eq_some_iff, Prod.mk.injEq] at h
              obtain ⟨s, hs, rfl, rfl⟩ := h
              cases hu with
              | arr _ _ _ _ _ b cap c k1 k2 k3 k4 =>
                obtain ⟨C, e', fz, h3, h4, h5, h6, h7, h8⟩ := hW.block hg k2
                have hv := (h6.drop off).take m
                have hc' := ((h7.take cs.length).drop off).take m
                rw [Nat.zero_add] at hc'
                exact QRun.same hW ⟨_, toBytes_run h1 (tb hc) h2 hv hc' (by simp; omega) hs, .str _⟩
              | arr0 _ _ _ A k1 k2 =>
                simp [vbytes] at hs; subst hs
                cases A with
                | none => exact QRun.same hW ⟨_, run_convert_bytes_nil w src e h1 (tb hc) 0 0 dst h2, (VR.str []).cast rfl⟩
                | some A =>
                  refine QRun.same hW ⟨.string ⟨#[]⟩, ?_, (VR.str []).cast rfl⟩
                  simp [convert, run_und h1, run_und h2, run_und (tb hc), Conv.bytesToString, loadCells, loadCellsFrom] <;> rfl
            · cases h
          · cases h
        · cases h
      · cases h
    · cases h
  | _ =>
    simp only [vconvert] at h
    split at h
    · split at h
      · cases h
      · cases h
    · cases h
end
end Go.Vf
