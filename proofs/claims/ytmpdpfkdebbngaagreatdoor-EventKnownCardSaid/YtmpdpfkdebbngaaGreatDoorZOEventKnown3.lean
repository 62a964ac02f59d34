/- Printed by split.py: calls of a run of EventKnown, each with what it answers; the kernel runs each by itself. -/
import Derived.Test.YtmpdpfkdebbngaaGreatDoorZOEventKnownR
import Derived.Test.YtmpdpfkdebbngaaGreatDoorZEnv
import Derived.KernelRfl
namespace Go.Proofs.YtmpdpfkdebbngaaGreatDoor.OEventKnown
open Go Zq
def en2 : En := ⟨46, [.pointer (some ⟨96, 0, none⟩), .pointer (some ⟨99, 0, none⟩)], 1123, [(1, w0), (22, w1), (27, w2), (28, w3), (29, w4), (92, w10), (94, w11), (95, w12), (96, w8), (99, w9), (636, w6)], .bool true, 2190, [(1, w0), (22, w1), (27, w2), (28, w3), (29, w4), (92, w10), (94, w11), (95, w13), (96, w8), (99, w9), (636, w6)]⟩
theorem va2 : Valid (aFn Tryz.env 98) en2 := valid_of (fFn_ok Tryz.env 98) (by kernel_rfl)
def en3 : En := ⟨52, [.pointer (some ⟨95, 0, none⟩)], 2190, [(1, w0), (22, w1), (27, w2), (28, w3), (29, w4), (92, w10), (94, w11), (95, w13), (96, w8), (99, w9), (636, w6)], .tuple #[], 2676, [(1, w0), (22, w1), (27, w2), (28, w3), (29, w4), (92, w10), (94, w11), (95, w13), (96, w8), (99, w9), (636, w6)]⟩
theorem va3 : Valid (aFn Tryz.env 98) en3 := valid_of (fFn_ok Tryz.env 98) (by kernel_rfl)
def en10 : En := ⟨39, [.pointer (some ⟨3285, 0, none⟩), .int .i64 2], 6286, [(1, w0), (22, w1), (27, w17), (28, w3), (29, w4), (92, w10), (94, w11), (95, w14), (636, w6), (2680, w10), (2681, w15), (2683, w6), (2684, w16), (2685, w3), (3176, w18), (3191, w19), (3212, w1), (3217, w2), (3218, w3), (3219, w20), (3282, w28), (3284, w6), (3285, w29), (4786, w22), (4788, w6), (4789, w24), (4790, w25), (6262, w27)], .bool true, 7305, [(1, w0), (22, w1), (27, w17), (28, w3), (29, w4), (92, w10), (94, w11), (95, w14), (636, w6), (2680, w10), (2681, w15), (2683, w6), (2684, w16), (2685, w3), (3176, w18), (3191, w19), (3212, w1), (3217, w2), (3218, w3), (3219, w20), (3282, w30), (3284, w6), (3285, w31), (4786, w22), (4788, w6), (4789, w24), (4790, w25), (6262, w27), (7304, w32)]⟩
theorem va10 : Valid (aFn Tryz.env 96) en10 := valid_of (fFn_ok Tryz.env 96) (by kernel_rfl)
def en11 : En := ⟨33, [.pointer (some ⟨3285, 0, none⟩)], 7305, [(1, w0), (22, w1), (27, w17), (28, w3), (29, w4), (92, w10), (94, w11), (95, w14), (636, w6), (2680, w10), (2681, w15), (2683, w6), (2684, w16), (2685, w3), (3176, w18), (3191, w19), (3212, w1), (3217, w2), (3218, w3), (3219, w20), (3282, w30), (3284, w6), (3285, w31), (4786, w22), (4788, w6), (4789, w24), (4790, w25), (7304, w32)], .slice (some ⟨7726, 0, none⟩) 3 3, 7727, [(1, w0), (22, w1), (27, w17), (28, w3), (29, w4), (92, w10), (94, w11), (95, w14), (636, w6), (2680, w10), (2681, w15), (2683, w6), (2684, w16), (2685, w3), (3176, w18), (3191, w19), (3212, w1), (3217, w2), (3218, w3), (3219, w20), (3282, w30), (3284, w6), (3285, w31), (4786, w22), (4788, w6), (4789, w24), (4790, w25), (7304, w32), (7726, w33)]⟩
theorem va11 : Valid (aFn Tryz.env 96) en11 := valid_of (fFn_ok Tryz.env 96) (by kernel_rfl)
end Go.Proofs.YtmpdpfkdebbngaaGreatDoor.OEventKnown
