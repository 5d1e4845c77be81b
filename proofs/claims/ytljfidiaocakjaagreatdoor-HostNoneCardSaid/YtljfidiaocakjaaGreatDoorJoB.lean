/-
  The functions that HostNone reaches.
-/
import Derived.Test.YtljfidiaocakjaaGreatDoorJoA
set_option linter.unusedVariables false
set_option linter.unusedSimpArgs false
namespace Go.Proofs.YtljfidiaocakjaaGreatDoor
open Go
noncomputable section
def cloL : List FuncId := [3, 4, 11, 38, 39, 10, 33, 93, 186, 332, 187, 189, 333, 457, 170, 171, 315, 316, 81, 317, 178, 175, 308, 319, 84, 188, 241, 190, 334, 458, 547, 605, 606, 287, 632, 633, 607, 608, 634, 635,
  647, 648, 191, 232, 364, 488, 489, 564, 165, 321, 173, 565, 361, 400, 516, 581, 459, 548, 609, 636, 649, 637, 638, 639, 650, 517, 362, 177, 192, 335, 455, 151, 286, 546, 596, 602, 506, 597, 629, 598,
  402, 403, 599, 630, 631, 646, 600, 601, 603, 604, 336, 339, 461, 460, 462, 464, 549, 463, 466, 551, 611, 472, 558, 550, 610, 640, 641, 465, 194, 344, 473, 474, 559, 619, 560, 620, 475, 476, 561, 621,
  477, 478, 479, 345, 337, 193, 338, 340, 467, 552, 545, 468, 553, 612, 642, 651, 652, 554, 613, 643, 614, 615, 644, 616, 341, 469, 555, 617, 618, 453, 556, 342, 470, 557, 415, 526, 260, 371, 382, 383,
  202, 349, 350, 343, 471, 195, 264, 267, 393, 449, 450, 542, 543, 544, 595, 268, 395, 298, 420, 235, 365, 366, 490, 367, 368, 369, 233, 94, 196, 197, 198, 346, 480, 265, 562, 266, 394, 174, 318, 363,
  200, 199, 347, 201, 348, 204, 481, 205, 139, 261, 384, 360, 487, 563, 622, 226, 95, 96, 98, 99, 100, 203, 97, 133, 125, 256, 295, 257, 380, 153, 289, 408, 407, 379, 494, 55, 34, 35, 101, 138,
  258, 381, 495, 496, 567, 497, 498, 568, 569, 623, 499, 500, 501, 502, 259, 36, 37, 40, 8, 17, 32, 48, 5, 18, 50, 51, 119, 120, 227, 359, 329, 229, 228, 121, 230, 123, 231, 122, 124, 234,
  236, 237, 52, 126, 238, 370, 491, 53, 127, 56, 85, 185, 74, 129, 128, 239, 240, 242, 372, 373, 374, 375, 131, 130, 244, 243, 245, 357, 290, 356, 485, 486, 247, 246, 376, 493, 492, 566, 248, 288,
  249, 250, 72, 161, 80, 166, 309, 425, 172, 167, 426, 427, 428, 429, 430, 431, 432, 530, 433, 434, 435, 436, 531, 180, 326, 451, 320, 322, 323, 324, 325, 515, 588, 90, 179, 437, 297, 417, 418, 419,
  527, 528, 162, 134, 251, 377, 378, 252, 159, 54, 132, 253, 254, 255, 27, 57, 58, 135, 49, 117, 118, 223, 222, 355, 224, 87, 164, 83, 225, 358, 19, 59, 60, 136, 137, 24, 68, 61, 140, 262,
  385, 386, 503, 387, 504, 570, 571, 624, 572, 573, 625, 626, 645, 574, 575, 576, 577, 388, 390, 424, 391, 505, 392, 389, 25, 73, 163, 299, 305, 300, 421, 301, 302, 422, 423, 529, 303, 304, 306, 307,
  141, 263, 142, 92, 26, 86, 176, 143, 67, 144, 269, 396, 182, 328, 454, 146, 274, 398, 507, 508, 509, 578, 510, 511, 579, 512, 513, 580, 514, 399, 270, 397, 273, 271, 62, 145, 272, 147, 275, 276,
  330, 63, 64, 65, 149, 148, 20, 66, 69, 150, 277, 283, 406, 278, 401, 279, 280, 404, 405, 518, 281, 282, 284, 285, 21, 22, 23, 70, 71, 152, 154, 155, 291, 292, 409, 293, 411, 410, 519, 582,
  583, 520, 294, 412, 413, 521, 522, 523, 584, 585, 586, 524, 525, 587, 627, 156, 157, 158, 296, 414, 416, 160, 28, 75, 41, 102, 206, 351, 482, 214, 113, 207, 216, 352, 208, 217, 115, 110, 212, 103,
  7, 12, 13, 42, 104, 209, 210, 105, 106, 107, 108, 211, 111, 109, 43, 14, 44, 46, 45, 112, 213, 6, 29, 76, 77, 82, 78, 168, 310, 438, 532, 30, 79, 88, 169, 311, 439, 533, 589, 534,
  440, 535, 536, 590, 628, 441, 537, 591, 592, 593, 442, 443, 444, 538, 594, 445, 539, 446, 540, 312, 313, 447, 314, 448, 541, 31, 89, 91, 181, 327, 452, 183, 184, 331, 456, 15, 16, 47, 114, 215,
  218, 219, 353, 483, 484, 221, 354, 116, 220, 9]
/-- the same search, over a table, with what was seen kept as bits -/
def viaM (t : List (List FuncId)) : Nat → List FuncId → List FuncId → Nat → List FuncId
  | 0, _, seen, _ => seen.reverse
  | _ + 1, [], seen, _ => seen.reverse
  | n + 1, f :: todo, seen, m => bif Nat.testBit m f then viaM t n todo seen m else viaM t n ((t[f]?).getD [] ++ todo) (f :: seen) (m ||| (1 <<< f))
theorem testBit_add (m f x : Nat) : Nat.testBit (m ||| (1 <<< f)) x = (Nat.testBit m x || decide (f = x)) := by
  rw [Nat.testBit_or, Nat.one_shiftLeft, Nat.testBit_two_pow]
theorem viaM_eq {P : Program} {t : List (List FuncId)} (ht : P.funcs.toList.map P.leadsTo = t) : ∀ (n : Nat) (todo seen : List FuncId) (m : Nat), (∀ x, seen.contains x = Nat.testBit m x) → P.closureVia n todo seen = viaM t n todo seen m
  | 0, todo, seen, m, h => by cases todo <;> rfl
  | n + 1, [], seen, m, h => rfl
  | n + 1, f :: todo, seen, m, h => by
    have hl : (P.funcs[f]?).elim [] P.leadsTo = (t[f]?).getD [] := by
      rw [← ht, List.getElem?_map]
      have e : P.funcs.toList[f]? = P.funcs[f]? := by simp
      rw [e]
      cases P.funcs[f]? <;> rfl
    unfold Program.closureVia viaM
    rw [h f]
    cases hb : Nat.testBit m f with
    | true => simpa using viaM_eq ht n todo seen m h
    | false =>
      rw [hl]
      simp only [Bool.false_eq_true, if_false, cond_false]
      refine viaM_eq ht n _ _ _ fun x => ?_
      rw [testBit_add, List.contains_cons, h x, Bool.or_comm]
      congr 1
      by_cases hx : x = f
      · subst hx; simp
      · have : ¬ f = x := fun e => hx e.symm
        simp [hx, this]
theorem sums_eq {P : Program} {t : List (List FuncId)} (ht : P.funcs.toList.map P.leadsTo = t) : (P.funcs.toList.map fun g => (P.leadsTo g).length + 1) = t.map fun l => l.length + 1 := by
  rw [← ht, List.map_map]
  rfl
theorem fuelEq : 1 + (leadL.map fun l => l.length + 1).sum = 2299 := by kernel_rfl
theorem viaEq : viaM leadL 2299 [3] [] 0 = cloL := by kernel_rfl
theorem cloEq : Tryz.pinned.checked.prog.closure 3 = cloL := by
  unfold Program.closure
  rw [sums_eq leadEq, fuelEq, viaM_eq leadEq 2299 [3] [] 0 (fun x => by simp)]
  exact viaEq
end
end Go.Proofs.YtljfidiaocakjaaGreatDoor
