/- Short names for laws. -/
import Derived.Test.YtemhccjjcioodaaGreatKWWords
import Derived.Test.YtemhccjjcioodaaGreatKWMore
import Derived.Test.YtemhccjjcioodaaGreatKWSized
set_option linter.unusedVariables false
namespace Go.Proofs.YtemhccjjcioodaaGreat
open Go.RowKit Go.Proofs.YtemhccjjcioodaaGreatW.PrintWords Go.Proofs.YtemhccjjcioodaaGreatW.PrintMore Go.Proofs.YtemhccjjcioodaaGreatW.PrintLast
theorem qbA : ∀ {w W : World}, Below w.heap.size w W → ∀ (o : Obj), Below w.heap.size w (W.alloc o) := @below_alloc
theorem qbN : ∀ {B : Nat} {w W : World}, Below B w W → ∀ (n : Nat), Below B w (W.drewN n) := @pw_below_drewN
theorem qb1 : ∀ {base : Nat} {w W : World}, Below base w W → Below base w W.drew := @below_drew1
theorem qbS : ∀ {w W : World} {g j : Nat} {v : Value}, Below w.heap.size w W → w.heap.size ≤ g → Below w.heap.size w (W.setCell ⟨g, j, none⟩ v) := @below_set
theorem qrA : ∀ {α : Type} {d : Kd α} {e : Nat} {w : World} {base : Nat} {ok : Nat → Prop} {v : Value} {xs : List α}, d.R e w base ok v xs → ∀ (o : Obj), d.R e (w.alloc o) base ok v xs := @Kd.R_alloc
theorem qrN : ∀ {α : Type} {d : Kd α} {e : Nat} {w : World} {base : Nat} {ok : Nat → Prop} {v : Value} {xs : List α}, d.R e w base ok v xs → ∀ (m : Nat), d.R e (w.drewN m) base ok v xs := @Kd.R_drewN
theorem qrD : ∀ {α : Type} {d : Kd α} {e : Nat} {w : World} {base : Nat} {ok : Nat → Prop} {v : Value} {xs : List α}, d.R e w base ok v xs → d.R e w.drew base ok v xs := @Kd.R_drew
theorem qoI : ∀ {α : Type} {val val_1 : α}, some val = some val_1 → val = val_1 := @Option.some.inj
theorem qoD : ∀ {p : Prop} [inst : Decidable p], decide p = true → p := @of_decide_eq_true
theorem qdT : ∀ {p : Prop} [inst : Decidable p], p → decide p = true := @decide_eq_true
theorem qdF : ∀ {p : Prop} [inst : Decidable p], ¬p → decide p = false := @decide_eq_false
theorem qwL : ∀ (w : World) (a : Addr) {u : Value}, w.cell? a = some u → a.block < w.heap.size := @World.block_lt_of_cell?
theorem qbF : ∀ {w : World} {g : Nat} {t : TypeId} {cs : Array Value}, w.heap[g]? = some (Obj.cells cs t (0, 0)) → ∀ (i : Nat), w.frozen? ⟨g, i, none⟩ = false := @blk_frozen
theorem qbP : ∀ {w W w2 : World}, Below w.heap.size w W → Below W.heap.size W w2 → Below w.heap.size w w2 := @below_step
theorem qbZ : ∀ {w W : World}, Below w.heap.size w W → w.heap.size ≤ W.heap.size := @below_size
theorem qoB : ∀ {α : Type} {b : α} {α_1 : Type} {x : Option α_1} {f : α_1 → Option α}, x.bind f = some b ↔ ∃ a, x = some a ∧ f a = some b := @Option.bind_eq_some_iff
theorem qtS : ∀ {α : Type} {i : Nat} {l : List α} (h : i < l.length), l.take (i + 1) = l.take i ++ [l[i]] := @List.take_succ_eq_append_getElem
theorem qbE : ∀ {b : Bool}, b = false ↔ b ≠ true := @Bool.eq_false_iff
theorem qlr : ∀ {α : Type} {n : Nat} {a : α}, (List.replicate n a).length = n := @List.length_replicate
theorem qlT : ∀ {n m k : Nat}, n ≤ m → m ≤ k → n ≤ k := @Nat.le_trans
theorem qlm : ∀ {α β : Type} {as : List α} (f : α → β), (List.map f as).length = as.length := @List.length_map
theorem qgD : ∀ {α : Type} {l : List α} {i : Nat} {a : α}, l.getD i a = l[i]?.getD a := @List.getD_eq_getElem?_getD
theorem qlR : ∀ (n : Nat), n ≤ n := @Nat.le_refl
theorem qtN : ∀ (n : Nat), ((n : Nat) : Int).toNat = n := @Int.toNat_natCast
theorem qBr : ∀ (B : Nat) (w : World), Below B w w := @Below.refl
theorem qgT : ∀ {a b c : World} {row : Option Nat}, a.grownBy b row → b.grownBy c row → a.grownBy c row := @World.grownBy.trans
theorem qDr : ∀ (w : World), Drawn0 w w := @Drawn0.refl
theorem qDs : ∀ {w w' : World}, Drawn0 w w' → ∀ (n : Nat), Drawn0 w (w'.drewN n) := @Drawn0.step
theorem qrM : ∀ {α : Type} {d : Kd α} {e : Nat} {w : World} {base : Nat} {ok ok' : Nat → Prop} {v : Value} {xs : List α}, d.R e w base ok v xs → (∀ (k : Nat), ok k → ok' k) → d.R e w base ok' v xs := @Kd.R_mono
theorem qrB : ∀ {α : Type} {d : Kd α} {e : Nat} {w w1 : World} {base : Nat} {ok : Nat → Prop} {v : Value} {xs : List α}, d.R e w base ok v xs → Below w.heap.size w w1 → d.R e w1 base ok v xs := @Kd.R_below
theorem qoS : ∀ {α β : Type} (a : α) (f : α → Option β), (some a).bind f = f a := @Option.bind_some
theorem qgG : ∀ {α : Type} {l : List α} {i : Nat} (h : i < l.length), l[i]? = some l[i] := @List.getElem?_eq_getElem
end Go.Proofs.YtemhccjjcioodaaGreat
