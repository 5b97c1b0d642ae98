/-
  Two nets that lie apart, within a set of blocks; the contracts once more. Conditions: bounds.
-/
import Derived.Test.YthhimnihgkegiaaNIn
namespace Go.Proofs.Ythhimnihgkegiaa
open Go Go.RowKit
set_option linter.unusedVariables false

def Net2B (w : World) (a b : Nat) (B : Nat → Prop) (s t : NS) : Prop := ∃ F G, (∀ k, F k → B k) ∧ (∀ k, G k → B k) ∧ (∀ k, F k → ¬ G k) ∧ NetP w a F s ∧ NetP w b G t
theorem Net2.toB {w : World} {a b L : Nat} {s t : NS} (h : Net2 w a b L s t) : Net2B w a b (from_ L) s t := h
theorem Net2B.swap {w : World} {a b : Nat} {B : Nat → Prop} {s t : NS} (h : Net2B w a b B s t) : Net2B w b a B t s := by
  obtain ⟨F, G, hF, hG, hd, h1, h2⟩ := h
  exact ⟨G, F, hG, hF, fun k e e2 => hd k e2 e, h2, h1⟩
theorem Net2B.keep {w w' : World} {a b : Nat} {B : Nat → Prop} {s t : NS} (h : Net2B w a b B s t) (hk : Keeps noBlock w w') : Net2B w' a b B s t := by
  obtain ⟨F, G, hF, hG, hd, h1, h2⟩ := h
  exact ⟨F, G, hF, hG, hd, h1.still hk, h2.still hk⟩
theorem Net2B.hole {w w' : World} {a b : Nat} {B : Nat → Prop} {s t : NS} (h : Net2B w a b B s t) (hk : Keeps noBlock w w') : Net2B w' a b (fun k => B k ∧ k ≠ w.heap.size) s t := by
  obtain ⟨F, G, hF, hG, hd, h1, h2⟩ := h
  exact ⟨F, G, fun k e => ⟨hF k e, fun e2 => by have := h1.lt k e; omega⟩, fun k e => ⟨hG k e, fun e2 => by have := h2.lt k e; omega⟩, hd, h1.still hk, h2.still hk⟩
theorem Net2B.mono {w : World} {a b : Nat} {B C : Nat → Prop} {s t : NS} (h : Net2B w a b B s t) (hc : ∀ k, B k → C k) : Net2B w a b C s t := by
  obtain ⟨F, G, hF, hG, hd, h1, h2⟩ := h
  exact ⟨F, G, fun k e => hc k (hF k e), fun k e => hc k (hG k e), hd, h1, h2⟩
theorem Net2B.ok {w : World} {a b : Nat} {B : Nat → Prop} {s t : NS} (h : Net2B w a b B s t) : s.Ok := by
  obtain ⟨F, G, hF, hG, hd, h1, h2⟩ := h; exact h1.ok
theorem Net2B.first {w : World} {a b : Nat} {B : Nat → Prop} {s t : NS} (h : Net2B w a b B s t) : NetB w a B s := by
  obtain ⟨F, G, hF, hG, hd, h1, h2⟩ := h; exact ⟨F, hF, h1⟩
theorem Net2B.second {w : World} {a b : Nat} {B : Nat → Prop} {s t : NS} (h : Net2B w a b B s t) : NetB w b B t := h.swap.first
theorem Net2B.step {w w' : World} {a b : Nat} {B : Nat → Prop} {s' t : NS} {F G : Nat → Prop} (hF : ∀ k, F k → B k) (hG : ∀ k, G k → B k) (hd : ∀ k, F k → ¬ G k) (h2 : NetP w b G t) (hl : ∀ k, w.heap.size ≤ k → B k)
    (hp : NetP w' a (grow F w w') s') (hk : Keeps F w w') : Net2B w' a b B s' t ∧ Keeps B w w' := by
  refine ⟨⟨_, G, grow_in hF hl, hG, fun k e e2 => ?_, hp, h2.keep hk fun k e e2 => hd k e2 e⟩, hk.mono fun k _ e => hF k e⟩
  rcases e with e | e
  · exact hd k e e2
  · have := h2.lt k e2; omega
def In2B (a b : Nat) (B : Nat → Prop) (s t : NS) (v : Value) (w : World) (e : Ending) (w' : World) : Prop := e = .returned v ∧ Net2B w' a b B s t ∧ Keeps B w w'
theorem send_2B (w : World) (a b : Nat) (B : Nat → Prop) (s t : NS) (n : Nat) (now fr to_ : Int) (tx : List UInt8) (h : Net2B w a b B s t) (hl : ∀ k, w.heap.size ≤ k → B k) (hf : s.Fine n) (hn : n ≤ 100000) (hnow : -1000000000 ≤ now ∧ now ≤ 1000000000) :
    Calls Try.prog 14 #[.pointer (some ⟨a, 0, none⟩), .int .i64 now, msgVal fr to_ tx] w (In2B a b B (s.send now fr to_ tx) t (.tuple #[]) w) := by
  obtain ⟨F, G, hF, hG, hd, h1, h2⟩ := h
  exact (send_any w a F s now fr to_ tx h1 hf.scr (by have := hf.sent; omega) hnow hf.tr (by have := hf.len; omega)).mono fun e w' ⟨he, hp, hk⟩ => ⟨he, Net2B.step hF hG hd h2 hl hp hk⟩
theorem next_2B (w : World) (a b : Nat) (B : Nat → Prop) (s t : NS) (n : Nat) (h : Net2B w a b B s t) (hl : ∀ k, w.heap.size ≤ k → B k) (hf : s.Fine n) (hn : n ≤ 100000) :
    Calls Try.prog 16 #[.pointer (some ⟨a, 0, none⟩)] w (In2B a b B s.next t (nextVal s.w) w) := by
  obtain ⟨F, G, hF, hG, hd, h1, h2⟩ := h
  exact (next_any w a F s h1 (by have := hf.len; omega)).mono fun e w' ⟨he, hp, hk⟩ => ⟨he, Net2B.step hF hG hd h2 hl hp hk⟩
end Go.Proofs.Ythhimnihgkegiaa
